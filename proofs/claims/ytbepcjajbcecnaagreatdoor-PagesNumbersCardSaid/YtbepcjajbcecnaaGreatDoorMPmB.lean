/-
  A file's number.
-/
import Derived.Test.YtbepcjajbcecnaaGreatDoorMPmA
import Derived.Test.YtbepcjajbcecnaaGreatDoorMPgA
namespace Go.Proofs.YtbepcjajbcecnaaGreatDoor
open Go.RowKit Go.Maps Go.MapKept
set_option linter.unusedSimpArgs false

theorem ext_head {s : ByteArray} {c : UInt8} {r : List UInt8} (h : s.data.toList = c :: r) : s.extract 0 1 = ⟨#[c]⟩ ∧ (s.extract 1 s.size).data.toList = r ∧ (s.extract 1 s.size).size ≤ s.size := by
  have e1 : (s.extract 0 1).data.toList = [c] := by
    rw [ByteArray.data_extract, Array.toList_extract, h]
    rfl
  have e2 : (s.extract 1 s.size).data.toList = r := by
    rw [ByteArray.data_extract, Array.toList_extract, h]
    have hl := congrArg List.length h
    simp at hl
    simp [List.extract, hl]
  refine ⟨bytes_ext (by rw [e1]), e2, ?_⟩
  have h1 : (s.extract 1 s.size).size = r.length := by rw [← e2]; simp
  have h2 := congrArg List.length h
  simp at h2
  omega
def NumPost5 (s : ByteArray) (w : World) (e : Ending) (w' : World) : Prop :=
  ∃ n : Int, e = .returned (.tuple #[.string (s.extract 0 1), .int .i64 n, .bool (pgNum s).isSome]) ∧ isI64 n ∧ (∀ c k, pgNum s = some (c, k) → s.extract 0 1 = ⟨#[c]⟩ ∧ n = k) ∧ Below w.heap.size w w'
theorem NumPost5.no {s : ByteArray} {w w' : World} {n : Int} (h : pgNum s = none) (hn : isI64 n) (hB : Below w.heap.size w w') : NumPost5 s w (.returned (.tuple #[.string (s.extract 0 1), .int .i64 n, .bool false])) w' :=
  ⟨n, by rw [h]; rfl, hn, fun c k hk => (by rw [h] at hk; cases hk), hB⟩
set_option maxRecDepth 100000 in
set_option maxHeartbeats 4000000 in
theorem pgnumber_any (w : World) (s : ByteArray) (hs : s.size ≤ 1000) (hE : WEnv w) :
    Calls Tryz.prog 104 #[.string s] w (NumPost5 s w) := by
  cases hd : s.data.toList with
  | nil =>
    obtain rfl : s = ⟨#[]⟩ := bytes_ext hd
    clear hd
    go_enter Tryz.func104, Tryz.ntmps104
    go_wp2
    go_ret3
    exact NumPost5.no rfl (by unfold isI64; omega) (Below.refl _ _)
  | cons c r =>
    obtain ⟨hlt, htl, hts⟩ := ext_head hd
    obtain ⟨t, ht⟩ : ∃ t, s.extract 1 s.size = t := ⟨_, rfl⟩
    obtain ⟨lt, hl⟩ : ∃ lt, s.extract 0 1 = lt := ⟨_, rfl⟩
    have hpn : pgNum s = (match Lib.atoiAll r with | .ok v => if (c = 105 ∨ c = 99) ∧ 1 ≤ v ∧ v ≤ 9007199254740992 ∧ s = pgName c v.toNat then some (c, v.toNat) else none | _ => none) := by
      unfold pgNum
      rw [hd]
      rfl
    have he : s.toList.isEmpty = false := by
      rw [ByteArray.toList_eq, hd]; rfl
    have hs1 : 1 ≤ s.size := by have := congrArg List.length hd; simp at this; omega
    have hi : (1 : Int) ≤ (s.size : Int) := by omega
    rw [ht] at htl hts
    rw [hl] at hlt
    have hlI : (lt.toList == [105]) = decide (c = 105) := by rw [ByteArray.toList_eq, hlt]; by_cases h : c = 105 <;> simp [h]
    have hlC : (lt.toList == [99]) = decide (c = 99) := by rw [ByteArray.toList_eq, hlt]; by_cases h : c = 99 <;> simp [h]
    have hPost : ∀ e w', (∃ n : Int, e = .returned (.tuple #[.string lt, .int .i64 n, .bool (pgNum s).isSome]) ∧ isI64 n ∧ (∀ k, pgNum s = some (c, k) → n = k) ∧ Below w.heap.size w w') → NumPost5 s w e w' := by
      rintro e w' ⟨n, h1, h2, h3, h4⟩
      refine ⟨n, by rw [hl]; exact h1, h2, fun c' k hk => ?_, h4⟩
      have hc : c' = c := by
        obtain ⟨e1, _⟩ := pgNum_some hk
        have := congrArg (fun x : ByteArray => x.data.toList) e1
        rw [hd] at this
        exact (List.cons.inj this).1.symm
      subst hc
      exact ⟨hl.trans hlt, h3 k hk⟩
    have hNo : ∀ n w', pgNum s = none → isI64 n → Below w.heap.size w w' → NumPost5 s w (.returned (.tuple #[.string lt, .int .i64 n, .bool false])) w' := fun n w' h1 h2 h3 => by rw [← hl]; exact NumPost5.no h1 h2 h3
    obtain ⟨tp, pv, hsyn⟩ := hE.syn
    obtain ⟨tr, pr, hrng⟩ := hE.rng
    have HT := Lib.hid ht
    have HL := Lib.hid hl
    have HNo := Lib.hid hNo
    have HPo := Lib.hid hPost
    have Hlt := Lib.hid hlt
    obtain ⟨b1, hb1⟩ : ∃ b, decide (c = 105) = b := ⟨_, rfl⟩
    obtain ⟨b2, hb2⟩ : ∃ b, decide (c = 99) = b := ⟨_, rfl⟩
    rw [hb1] at hlI
    rw [hb2] at hlC
    have HB := Lib.hid (And.intro hb1 hb2)
    have Htl := Lib.hid htl
    clear ht hl hNo hPost hd hlt hb1 hb2 htl
    rcases ha : Lib.atoiAll r with v | _ | _
    · have hA := Tryz.strconv_Atoi_ok t (by omega) v (by rw [Htl.out, ha]) w
      obtain ⟨v0, v1⟩ := Lib.atoiAll_bounds ha
      have HA := Lib.hid hA
      rw [ha] at hpn
      simp only at hpn
      have HW := Lib.hid hpn
      clear hA hpn ha hsyn hrng
      by_cases hcl : b1 = false ∧ b2 = false
      · obtain ⟨rfl, rfl⟩ := hcl
        have hn : pgNum s = none := HW.out.trans (if_neg (fun h => by
          rcases h.1 with e | e
          · have := HB.out.1; rw [decide_eq_true e] at this; cases this
          · have := HB.out.2; rw [decide_eq_true e] at this; cases this))
        have Hn := Lib.hid hn
        clear hn
        go_enter Tryz.func104, Tryz.ntmps104
        go_wp2_with (rw [HT.out, HL.out]; go_at_call 138; refine HA.out.mono ?_; rintro e w2 ⟨rfl, hB⟩)
        go_ret3
        refine HNo.out v _ Hn.out ⟨v0, v1⟩ ?_
        rcases hB with rfl | ⟨t, rfl⟩
        · exact Below.refl _ _
        · exact Lib.bytesWorld_below _ _ _
      · have hc : c = 105 ∨ c = 99 := by
          rcases hx : b1 with _ | _
          · rcases hy : b2 with _ | _
            · exact absurd ⟨hx, hy⟩ hcl
            · have := HB.out.2; rw [hy] at this; exact Or.inr (of_decide_eq_true this)
          · have := HB.out.1; rw [hx] at this; exact Or.inl (of_decide_eq_true this)
        have hbb : b1 = true ∨ (b1 = false ∧ b2 = true) := by
          rcases hx : b1 with _ | _
          · rcases hy : b2 with _ | _
            · exact absurd ⟨hx, hy⟩ hcl
            · exact Or.inr ⟨rfl, rfl⟩
          · exact Or.inl rfl
        clear hcl
        by_cases h1 : v < 1
        · have hn : pgNum s = none := HW.out.trans (if_neg (fun h => by have := h.2.1; omega))
          have Hn := Lib.hid hn
          clear hn hc
          rcases hbb with rfl | ⟨rfl, rfl⟩
          all_goals
            go_enter Tryz.func104, Tryz.ntmps104
            go_wp2_with (rw [HT.out, HL.out]; go_at_call 138; refine HA.out.mono ?_; rintro e w2 ⟨rfl, hB⟩)
            go_ret3
            refine HNo.out v _ Hn.out ⟨v0, v1⟩ ?_
            rcases hB with rfl | ⟨t, rfl⟩
            · exact Below.refl _ _
            · exact Lib.bytesWorld_below _ _ _
        · by_cases h2 : 9007199254740992 < v
          · have hn : pgNum s = none := HW.out.trans (if_neg (fun h => by have := h.2.2.1; omega))
            have Hn := Lib.hid hn
            clear hn hc
            rcases hbb with rfl | ⟨rfl, rfl⟩
            all_goals
              go_enter Tryz.func104, Tryz.ntmps104
              go_wp2_with (rw [HT.out, HL.out]; go_at_call 138; refine HA.out.mono ?_; rintro e w2 ⟨rfl, hB⟩)
              go_ret3
              refine HNo.out v _ Hn.out ⟨v0, v1⟩ ?_
              rcases hB with rfl | ⟨t, rfl⟩
              · exact Below.refl _ _
              · exact Lib.bytesWorld_below _ _ _
          · obtain ⟨n, rfl⟩ : ∃ n : Nat, v = n := ⟨v.toNat, by omega⟩
            have hn : pgNum s = if s = pgName c n then some (c, n) else none := by
              rw [HW.out]
              by_cases he : s = pgName c n
              · rw [if_pos he, if_pos ⟨hc, by omega, by omega, by simpa using he⟩]; simp
              · rw [if_neg he, if_neg (by rintro ⟨_, _, _, h⟩; exact he (by simpa using h))]
            have hN := fun wX (hX : WEnv wX) => pgfile_any wX c n (by omega) hX
            rw [← Hlt.out] at hN
            obtain ⟨x, hx⟩ : ∃ x, pgName c n = x := ⟨_, rfl⟩
            rw [hx] at hn hN
            have hse := strEq s x
            have h3 : (n : Int) ≤ 9007199254740992 := by omega
            have h4 : (1 : Int) ≤ n := by omega
            have HN := Lib.hid hN
            have Hn := Lib.hid hn
            have Hse := Lib.hid hse
            clear hN hn h1 h2 HW hx hse hc
            rcases hbb with rfl | ⟨rfl, rfl⟩
            all_goals
              go_enter Tryz.func104, Tryz.ntmps104
              go_wp2_with first
                | (rw [HT.out, HL.out]; go_at_call 138; refine HA.out.mono ?_; rintro e w2 ⟨rfl, hB⟩; have hB : Below w.heap.size w w2 := (by rcases hB with rfl | ⟨t, rfl⟩; exact Below.refl _ _; exact Lib.bytesWorld_below _ _ _))
                | (go_at_call 52; refine (HN.out w2 (hE.below hB)).mono ?_; rintro e w3 ⟨rfl, hB3⟩)
              go_ret3
              refine HPo.out _ _ ⟨n, ?_, by unfold isI64; omega, fun k hk => ?_, hB.trans (hB3.mono hB.size)⟩
              · show Ending.returned (.tuple #[.string lt, .int .i64 n, .bool (s.toList == x.toList)]) = _
                rw [Hse.out, Hn.out]
                by_cases h : s = x
                · rw [if_pos h, decide_eq_true h]; rfl
                · rw [if_neg h, decide_eq_false h]; rfl
              · rw [Hn.out] at hk
                split at hk
                · cases hk; rfl
                · cases hk
    · have hw : pgNum s = none := by rw [hpn, ha]
      have hA : Calls Tryz.prog 138 #[.string t] w fun e w' => ∃ N, e = .returned (.tuple #[.int .i64 0, .iface 225 (.pointer (some ⟨N, 0, none⟩))]) ∧ w.heap.size ≤ N ∧ w'.heap[N]? = some (.cells #[.string ⟨#[65, 116, 111, 105]⟩, .string t, .iface tp pv] 240 (0, 0)) ∧ Below w.heap.size w w' := Any.strconv_Atoi_syntax_var Tryz.laysC172 t (by omega) (by rw [Htl.out, ha]) tp pv w hsyn
      have HA := Lib.hid hA
      have Hn := Lib.hid hw
      clear hA ha hsyn hrng hw hpn
      go_enter Tryz.func104, Tryz.ntmps104
      go_wp2_with (rw [HT.out, HL.out]; go_at_call 138; refine HA.out.mono ?_; rintro e w2 ⟨N, rfl, hN, hcell, hB⟩)
      go_ret3
      exact HNo.out 0 _ Hn.out (by unfold isI64; omega) hB
    · have hw : pgNum s = none := by rw [hpn, ha]
      have hA := Tryz.strconv_Atoi_range_var t (by omega) (by rw [Htl.out, ha]) tr pr w hrng
      obtain ⟨s0, s1⟩ := Lib.atoiSat_bounds t.data.toList
      have HA := Lib.hid hA
      have Hn := Lib.hid hw
      generalize Lib.atoiSat t.data.toList = z at s0 s1 HA
      clear hA ha hsyn hrng hw hpn
      go_enter Tryz.func104, Tryz.ntmps104
      go_wp2_with (rw [HT.out, HL.out]; go_at_call 138; refine HA.out.mono ?_; rintro e w2 ⟨N, rfl, hN, hcell, hB⟩)
      go_ret3
      exact HNo.out z _ Hn.out ⟨s0, s1⟩ hB
end Go.Proofs.YtbepcjajbcecnaaGreatDoor

/-
  Steps, one by one, up to the first error: closures, each of which does a step upon the disk.
-/
namespace Go.Proofs.YtbepcjajbcecnaaGreatDoor
open Go.RowKit Go.Maps Go.MapKept
set_option linter.unusedSimpArgs false

/-- a closure: its function, what it has caught. -/
def fnVal (x : Nat × Array Value) : Value := .func (.func x.1) #[] x.2
theorem runS_eq (f : ADisk → ADisk × Int) (r : List (ADisk → ADisk × Int)) (d : ADisk) : runS (f :: r) d = if (f d).2 ≠ 0 then f d else runS r (f d).1 := rfl
/-- a function with a body is entered. -/
def Enters (x : Nat × Array Value) : Prop := ∀ w : World, Sem.run Tryz.prog (callFunc x.1 x.2) w = .ok (.enter x.1 x.2) w
def StepC (ex : Nat → Prop) (p m : Nat) (x : Nat × Array Value) (f : ADisk → ADisk × Int) (w : World) : Prop :=
  ∀ w' d, Keep ex w w' → DiskAt ex w' p m d → Calls Tryz.prog x.1 x.2 w' fun e w2 => e = .returned (.int .i64 (f d).2) ∧ DiskAt ex w2 p m (f d).1 ∧ Keep ex w' w2
section
variable {ex : Nat → Prop} {w : World} {p m : Nat} {d : ADisk}
set_option maxRecDepth 100000 in
set_option maxHeartbeats 4000000 in
theorem pgsteps_at (r n c : Nat) (fs : List (Nat × Array Value)) (ss : List (ADisk → ADisk × Int)) (hn : fs.length = n) (hl : ss.length = n) (hn1 : n ≤ 100) (h : DiskAt ex w p m d)
    (hr : ∀ w', Keep ex w w' → ∀ j (hj : j < fs.length), w'.cell? ⟨r, j, none⟩ = some (fnVal fs[j])) (hent : ∀ j (hj : j < fs.length), Enters fs[j]) (hstep : ∀ j (hj : j < fs.length) (hs : j < ss.length), StepC ex p m fs[j] ss[j] w) :
    Calls Tryz.prog 56 #[.slice (some ⟨r, 0, none⟩) n c] w fun e w' => e = .returned (.int .i64 (runS ss d).2) ∧ DiskAt ex w' p m (runS ss d).1 ∧ Keep ex w w' := by
  have HR := Lib.hid hr
  have HS := Lib.hid hstep
  have Hn := Lib.hid (And.intro hn hl)
  have HEn := Lib.hid hent
  clear hr hstep hn hl hent
  go_enter Tryz.func56, Tryz.ntmps56
  go_wp2
  go_loopw [8] (fun i wr => ∃ (j : Nat) (dj : ADisk), j ≤ n ∧ i = .int .i64 j ∧ DiskAt ex wr p m dj ∧ Keep ex w wr ∧ runS ss d = runS (ss.drop j) dj) (fun i _ => n - (intOf i).toNat)
  case atStart => exact ⟨0, d, by omega, rfl, h, Keep.refl _ _, rfl⟩
  case round =>
    obtain ⟨j, dj, hj, rfl, hD, hK, hrun⟩ := hrel
    have HRun := Lib.hid hrun
    clear hrun h
    by_cases hlt : j < n
    · have hjf : j < fs.length := by rw [Hn.out.1]; exact hlt
      have hjs : j < ss.length := by rw [Hn.out.2]; exact hlt
      have hc := HR.out wr hK j hjf
      obtain ⟨F, hF⟩ : ∃ F, fs[j].1 = F := ⟨_, rfl⟩
      obtain ⟨P, hP⟩ : ∃ P, fs[j].2 = P := ⟨_, rfl⟩
      have hst := HS.out j hjf hjs wr dj hK hD
      have hen := HEn.out j hjf
      unfold fnVal at hc
      unfold Enters at hen
      rw [hF, hP] at hc hst hen
      have hd2 : ss.drop j = ss[j] :: ss.drop (j + 1) := (List.getElem_cons_drop hjs).symm
      have hrun := HRun.out
      rw [hd2, runS_eq] at hrun
      obtain ⟨f, hf⟩ : ∃ f, ss[j] = f := ⟨_, rfl⟩
      rw [hf] at hrun hst
      obtain ⟨er, her⟩ : ∃ er, (f dj).2 = er := ⟨_, rfl⟩
      obtain ⟨d2, hd2'⟩ : ∃ d2, (f dj).1 = d2 := ⟨_, rfl⟩
      rw [her, hd2'] at hst
      have HSt := Lib.hid hst
      have HRu := Lib.hid hrun
      have Her := Lib.hid (And.intro her hd2')
      have hjI : (j : Int) < (n : Int) := by omega
      have hj0 : (0 : Int) ≤ (j : Int) := by omega
      clear hst hrun hd2 hf hF hP her hd2' HRun
      by_cases hz : er = 0
      · subst hz
        go_wp2_with (refine HSt.out.mono ?_; rintro e w3 ⟨rfl, hD3, hK3⟩)
        go_roundw
        case rel => exact ⟨j + 1, d2, by omega, by go_num, hD3, hK.trans hK3, by rw [HRu.out, if_neg (by rw [Her.out.1]; simp), Her.out.2]⟩
        case measure => simp [intOf]; omega
      · have hzb : (er != 0) = true := by simpa using hz
        have Hz := Lib.hid hz
        clear hz
        go_wp2_with (refine HSt.out.mono ?_; rintro e w3 ⟨rfl, hD3, hK3⟩)
        go_ret
        rw [HRu.out, if_pos (by rw [Her.out.1]; exact Hz.out), Her.out.1, Her.out.2]
        exact ⟨rfl, hD3, hK.trans hK3⟩
    · have hje : j = n := by omega
      have hjI : ¬ (j : Int) < (n : Int) := by omega
      have hend : runS ss d = (dj, 0) := by rw [HRun.out, hje, List.drop_of_length_le (by rw [Hn.out.2]; exact Nat.le_refl _)]; rfl
      have Hend := Lib.hid hend
      clear hend hje HRun
      go_wp2
      go_ret
      rw [Hend.out]
      exact ⟨rfl, hD, hK⟩
end
end Go.Proofs.YtbepcjajbcecnaaGreatDoor

/-
  The steps that make a file of some bytes alone, as closures; the rename behind them.
-/
namespace Go.Proofs.YtbepcjajbcecnaaGreatDoor
open Go.RowKit Go.Maps Go.MapKept
set_option linter.unusedSimpArgs false

/-- the boxes that the steps share. -/
structure FBox (ex : Nat → Prop) (w : World) (q p bs bn bb : Nat) (s : ByteArray) (vb : Value) (b : List UInt8) : Prop where
  cs : w.cell? ⟨bs, 0, none⟩ = some (.pointer (some ⟨q, 0, none⟩))
  cn : w.cell? ⟨bn, 0, none⟩ = some (.string s)
  cb : w.cell? ⟨bb, 0, none⟩ = some vb
  cq : w.cell? ⟨q, 0, none⟩ = some (.pointer (some ⟨p, 0, none⟩))
  rd : Rd w vb (bcells b)
  xs : ex bs
  xn : ex bn
  xb : ex bb
  xq : ex q
  xv : ∀ g, vb.ownBlock = some g → ex g
  sz : s.size ≤ maxLen
  bz : b.length ≤ 140737488355328
section
variable {ex : Nat → Prop} {w : World} {q p m bs bn bb : Nat} {d : ADisk} {s : ByteArray} {vb : Value} {b : List UInt8}
theorem FBox.keep {w' : World} (h : FBox ex w q p bs bn bb s vb b) (hk : Keep ex w w') : FBox ex w' q p bs bn bb s vb b :=
  ⟨(hk.cell h.xs 0).trans h.cs, (hk.cell h.xn 0).trans h.cn, (hk.cell h.xb 0).trans h.cb, (hk.cell h.xq 0).trans h.cq, hk.rd h.rd h.xv, h.xs, h.xn, h.xb, h.xq, h.xv, h.sz, h.bz⟩
set_option maxRecDepth 100000 in
set_option maxHeartbeats 2000000 in
theorem pgfile1_at (hb : FBox ex w q p bs bn bb s vb b) : StepC ex p m (93, #[.pointer (some ⟨bs, 0, none⟩), .pointer (some ⟨bn, 0, none⟩)]) (goneS s) w := by
  intro w' d hK0 h
  have hb := hb.keep hK0
  clear hK0
  have k1 := hb.cs
  have k2 := hb.cn
  have k3 := hb.cq
  have hR := Remove_at s (h.drew) hb.sz
  unfold goneS
  obtain ⟨er, her⟩ : ∃ er, d.removeErr s = er := ⟨_, rfl⟩
  rw [her] at hR ⊢
  have HR := Lib.hid hR
  have Hb := Lib.hid hb
  clear hR hb her
  by_cases h13 : er = 13
  · subst h13
    go_enter Tryz.func93, Tryz.ntmps93
    go_wp2
    go_region_held3 (fun w'' => w''.cell? ⟨bs, 0, none⟩ = some (.pointer (some ⟨q, 0, none⟩)) ∧ w''.cell? ⟨q, 0, none⟩ = some (.pointer (some ⟨p, 0, none⟩)) ∧ w''.cell? ⟨bn, 0, none⟩ = some (.string s)) (first | exact ⟨k1, k3, k2⟩ | exact S3 | go_keep)
      (first
        | (go_at_call 94; refine HR.out.mono ?_; rintro e w2 ⟨rfl, hD, hK⟩; have S3 : w2.cell? ⟨bs, 0, none⟩ = some (.pointer (some ⟨q, 0, none⟩)) ∧ w2.cell? ⟨q, 0, none⟩ = some (.pointer (some ⟨p, 0, none⟩)) ∧ w2.cell? ⟨bn, 0, none⟩ = some (.string s) := ⟨(hK.cell Hb.out.xs 0).trans k1, (hK.cell Hb.out.xq 0).trans k3, (hK.cell Hb.out.xn 0).trans k2⟩))
    go_wp2
    go_ret
    exact ⟨rfl, hD, (Keep.refl _ _).drew.trans hK⟩
  · have hz : (er != 13) = true := by simpa using h13
    have H13 := Lib.hid h13
    clear h13
    go_enter Tryz.func93, Tryz.ntmps93
    go_wp2
    go_region_held3 (fun w'' => w''.cell? ⟨bs, 0, none⟩ = some (.pointer (some ⟨q, 0, none⟩)) ∧ w''.cell? ⟨q, 0, none⟩ = some (.pointer (some ⟨p, 0, none⟩)) ∧ w''.cell? ⟨bn, 0, none⟩ = some (.string s)) (first | exact ⟨k1, k3, k2⟩ | exact S3 | go_keep)
      (first
        | (go_at_call 94; refine HR.out.mono ?_; rintro e w2 ⟨rfl, hD, hK⟩; have S3 : w2.cell? ⟨bs, 0, none⟩ = some (.pointer (some ⟨q, 0, none⟩)) ∧ w2.cell? ⟨q, 0, none⟩ = some (.pointer (some ⟨p, 0, none⟩)) ∧ w2.cell? ⟨bn, 0, none⟩ = some (.string s) := ⟨(hK.cell Hb.out.xs 0).trans k1, (hK.cell Hb.out.xq 0).trans k3, (hK.cell Hb.out.xn 0).trans k2⟩))
    go_wp2
    go_ret
    exact ⟨rfl, hD, (Keep.refl _ _).drew.trans hK⟩
set_option maxRecDepth 100000 in
set_option maxHeartbeats 2000000 in
theorem pgfile2_at (hb : FBox ex w q p bs bn bb s vb b) : StepC ex p m (95, #[.pointer (some ⟨bs, 0, none⟩), .pointer (some ⟨bn, 0, none⟩), .pointer (some ⟨bb, 0, none⟩)]) (appS s b) w := by
  intro w' d hK0 h
  have hb := hb.keep hK0
  clear hK0
  obtain ⟨av, cv, rfl⟩ := hb.rd.shape
  have k1 := hb.cs
  have k2 := hb.cn
  have k3 := hb.cq
  have k4 := hb.cb
  have hrd := hb.rd
  have hR := Append_at s _ b (h.drew) hb.sz (hrd.below ((Below.refl _ _).drew)) (by have := hb.bz; omega)
  rw [bcells_length] at hR k4
  have HR := Lib.hid hR
  have Hb := Lib.hid hb
  clear hR hb hrd
  go_enter Tryz.func95, Tryz.ntmps95
  go_wp2
  go_region_held3 (fun w'' => w''.cell? ⟨bs, 0, none⟩ = some (.pointer (some ⟨q, 0, none⟩)) ∧ w''.cell? ⟨q, 0, none⟩ = some (.pointer (some ⟨p, 0, none⟩)) ∧ w''.cell? ⟨bn, 0, none⟩ = some (.string s) ∧ w''.cell? ⟨bb, 0, none⟩ = some (.slice av b.length cv)) (first | exact ⟨k1, k3, k2, k4⟩ | exact S3 | go_keep)
    (first
      | (go_at_call 72; refine HR.out.mono ?_; rintro e w2 ⟨rfl, hD, hK⟩; have S3 : w2.cell? ⟨bs, 0, none⟩ = some (.pointer (some ⟨q, 0, none⟩)) ∧ w2.cell? ⟨q, 0, none⟩ = some (.pointer (some ⟨p, 0, none⟩)) ∧ w2.cell? ⟨bn, 0, none⟩ = some (.string s) ∧ w2.cell? ⟨bb, 0, none⟩ = some (.slice av b.length cv) := ⟨(hK.cell Hb.out.xs 0).trans k1, (hK.cell Hb.out.xq 0).trans k3, (hK.cell Hb.out.xn 0).trans k2, (hK.cell Hb.out.xb 0).trans k4⟩))
  go_wp2
  go_ret
  exact ⟨rfl, hD, (Keep.refl _ _).drew.trans hK⟩
set_option maxRecDepth 100000 in
set_option maxHeartbeats 2000000 in
theorem pgfile3_at (hb : FBox ex w q p bs bn bb s vb b) : StepC ex p m (96, #[.pointer (some ⟨bs, 0, none⟩), .pointer (some ⟨bn, 0, none⟩)]) (synS s) w := by
  intro w' d hK0 h
  have hb := hb.keep hK0
  clear hK0
  have k1 := hb.cs
  have k2 := hb.cn
  have k3 := hb.cq
  have hR := Sync_at s (h.drew) hb.sz
  have HR := Lib.hid hR
  have Hb := Lib.hid hb
  clear hR hb
  go_enter Tryz.func96, Tryz.ntmps96
  go_wp2
  go_region_held3 (fun w'' => w''.cell? ⟨bs, 0, none⟩ = some (.pointer (some ⟨q, 0, none⟩)) ∧ w''.cell? ⟨q, 0, none⟩ = some (.pointer (some ⟨p, 0, none⟩)) ∧ w''.cell? ⟨bn, 0, none⟩ = some (.string s)) (first | exact ⟨k1, k3, k2⟩ | exact S3 | go_keep)
    (first
      | (go_at_call 45; refine HR.out.mono ?_; rintro e w2 ⟨rfl, hD, hK⟩; have S3 : w2.cell? ⟨bs, 0, none⟩ = some (.pointer (some ⟨q, 0, none⟩)) ∧ w2.cell? ⟨q, 0, none⟩ = some (.pointer (some ⟨p, 0, none⟩)) ∧ w2.cell? ⟨bn, 0, none⟩ = some (.string s) := ⟨(hK.cell Hb.out.xs 0).trans k1, (hK.cell Hb.out.xq 0).trans k3, (hK.cell Hb.out.xn 0).trans k2⟩))
  go_wp2
  go_ret
  exact ⟨rfl, hD, (Keep.refl _ _).drew.trans hK⟩
end
end Go.Proofs.YtbepcjajbcecnaaGreatDoor

/-
  The slice of a file's steps; the commit's packs.
-/
namespace Go.Proofs.YtbepcjajbcecnaaGreatDoor
open Go.RowKit Go.Maps Go.MapKept
set_option linter.unusedSimpArgs false

def fileFns (bs bn bb : Nat) : List (Nat × Array Value) := [(93, #[.pointer (some ⟨bs, 0, none⟩), .pointer (some ⟨bn, 0, none⟩)]), (95, #[.pointer (some ⟨bs, 0, none⟩), .pointer (some ⟨bn, 0, none⟩), .pointer (some ⟨bb, 0, none⟩)]), (96, #[.pointer (some ⟨bs, 0, none⟩), .pointer (some ⟨bn, 0, none⟩)])]
def FileSPost (w : World) (q : Nat) (s : ByteArray) (vb : Value) (e : Ending) (w' : World) : Prop :=
  ∃ bs bn bb r, e = .returned (.slice (some ⟨r, 0, none⟩) 3 3) ∧ w'.heap[r]? = some (.cells ((fileFns bs bn bb).map fnVal).toArray 99 (0, 0)) ∧ w'.cell? ⟨bs, 0, none⟩ = some (.pointer (some ⟨q, 0, none⟩)) ∧ w'.cell? ⟨bn, 0, none⟩ = some (.string s) ∧ w'.cell? ⟨bb, 0, none⟩ = some vb ∧
    (w.heap.size ≤ bs ∧ bs < r) ∧ (w.heap.size ≤ bn ∧ bn < r) ∧ (w.heap.size ≤ bb ∧ bb < r) ∧ Below w.heap.size w w'
theorem allocs4 (w : World) (x1 x2 x3 : Value) (cs : Array Value) (t1 t2 t3 t4 : TypeId) :
    ((((w.alloc (.cells #[x1] t1)).alloc (.cells #[x2] t2)).alloc (.cells #[x3] t3)).alloc (.cells cs t4)).heap[w.heap.size + 1 + 1 + 1]? = some (.cells cs t4 (0, 0)) ∧
    ((((w.alloc (.cells #[x1] t1)).alloc (.cells #[x2] t2)).alloc (.cells #[x3] t3)).alloc (.cells cs t4)).cell? ⟨w.heap.size, 0, none⟩ = some x1 ∧
    ((((w.alloc (.cells #[x1] t1)).alloc (.cells #[x2] t2)).alloc (.cells #[x3] t3)).alloc (.cells cs t4)).cell? ⟨w.heap.size + 1, 0, none⟩ = some x2 ∧
    ((((w.alloc (.cells #[x1] t1)).alloc (.cells #[x2] t2)).alloc (.cells #[x3] t3)).alloc (.cells cs t4)).cell? ⟨w.heap.size + 1 + 1, 0, none⟩ = some x3 ∧
    Below w.heap.size w ((((w.alloc (.cells #[x1] t1)).alloc (.cells #[x2] t2)).alloc (.cells #[x3] t3)).alloc (.cells cs t4)) := by
  have h1 := alloc_at w (.cells #[x1] t1)
  have h2 := alloc_at (w.alloc (.cells #[x1] t1)) (.cells #[x2] t2)
  have h3 := alloc_at ((w.alloc (.cells #[x1] t1)).alloc (.cells #[x2] t2)) (.cells #[x3] t3)
  have h4 := alloc_at (((w.alloc (.cells #[x1] t1)).alloc (.cells #[x2] t2)).alloc (.cells #[x3] t3)) (.cells cs t4)
  have z2 : (w.alloc (.cells #[x1] t1)).heap.size = w.heap.size + 1 := by simp
  have z3 : ((w.alloc (.cells #[x1] t1)).alloc (.cells #[x2] t2)).heap.size = w.heap.size + 1 + 1 := by simp
  have z4 : (((w.alloc (.cells #[x1] t1)).alloc (.cells #[x2] t2)).alloc (.cells #[x3] t3)).heap.size = w.heap.size + 1 + 1 + 1 := by simp
  rw [z2] at h2
  rw [z3] at h3
  rw [z4] at h4
  refine ⟨h4, ?_, ?_, ?_, ?_⟩
  · rw [cell_at (alloc_old (alloc_old (alloc_old h1 _) _) _)]; rfl
  · rw [cell_at (alloc_old (alloc_old h2 _) _)]; rfl
  · rw [cell_at (alloc_old h3 _)]; rfl
  · exact ((((Below.refl _ w).alloc (Nat.le_refl _) _).alloc (by omega) _).alloc (by omega) _).alloc (by omega) _
set_option maxRecDepth 100000 in
set_option maxHeartbeats 2000000 in
theorem pgfileS_any (w : World) (q : Nat) (s : ByteArray) (a : Option Addr) (n c : Nat) :
    Calls Tryz.prog 51 #[.pointer (some ⟨q, 0, none⟩), .string s, .slice a n c] w (FileSPost w q s (.slice a n c)) := by
  go_enter Tryz.func51, Tryz.ntmps51
  go_wp2
  go_ret
  obtain ⟨h1, h2, h3, h4, h5⟩ := allocs4 w (.pointer (some ⟨q, 0, none⟩)) (.string s) (.slice a n c) ((fileFns w.heap.size (w.heap.size + 1) (w.heap.size + 1 + 1)).map fnVal).toArray 24 9 25 99
  exact ⟨w.heap.size, w.heap.size + 1, w.heap.size + 1 + 1, w.heap.size + 1 + 1 + 1, rfl, h1, h2, h3, h4, ⟨by omega, by omega⟩, ⟨by omega, by omega⟩, ⟨by omega, by omega⟩, h5⟩
end Go.Proofs.YtbepcjajbcecnaaGreatDoor

/-
  The packs that keys name.
-/
namespace Go.Proofs.YtbepcjajbcecnaaGreatDoor
open Go.RowKit Go.Maps Go.MapKept
set_option linter.unusedSimpArgs false

theorem keyedI : Keyed Tryz.prog 3 := int_keyed Tryz.underlying3
open Classical in
noncomputable def gOut (out : List Nat) (v : Value) : Option Value := if ∃ n ∈ out, v = .int .i64 (n : Nat) then some (.int .i64 1) else none
theorem gOut_int (out : List Nat) (n : Nat) : gOut out (.int .i64 n) = if n ∈ out then some (.int .i64 1) else none := by
  unfold gOut
  by_cases h : n ∈ out
  · rw [if_pos ⟨n, h, rfl⟩, if_pos h]
  · rw [if_neg ?_, if_neg h]
    rintro ⟨k, hk, e⟩
    injection e with _ e
    have hnk : n = k := by omega
    exact h (hnk ▸ hk)
def addN (out : List Nat) (n : Nat) : List Nat := if n ∈ out then out else n :: out
theorem addN_mem (out : List Nat) (n k : Nat) : k ∈ addN out n ↔ k = n ∨ k ∈ out := by
  unfold addN
  split
  · rename_i h
    constructor
    · exact Or.inr
    · rintro (rfl | h2)
      · exact h
      · exact h2
  · rw [List.mem_cons]
open Classical in
theorem gOut_add (out : List Nat) (n : Nat) : (fun x => if x = Value.int .i64 (n : Nat) then some (Value.int .i64 1) else gOut out x) = gOut (addN out n) := by
  funext v
  unfold gOut
  by_cases hv : v = .int .i64 (n : Nat)
  · rw [if_pos hv, if_pos ⟨n, (addN_mem _ _ _).2 (Or.inl rfl), hv⟩]
  · rw [if_neg hv]
    by_cases h : ∃ k ∈ out, v = .int .i64 (k : Nat)
    · obtain ⟨k, h1, h2⟩ := h
      rw [if_pos ⟨k, h1, h2⟩, if_pos ⟨k, (addN_mem _ _ _).2 (Or.inr h1), h2⟩]
    · rw [if_neg h, if_neg (fun ⟨k, h1, h2⟩ => by
        rcases (addN_mem _ _ _).1 h1 with rfl | h1
        · exact hv h2
        · exact h ⟨k, h1, h2⟩)]
theorem addN_nodup {out : List Nat} (h : out.Nodup) (n : Nat) : (addN out n).Nodup := by
  unfold addN
  split
  · exact h
  · rename_i hn; exact List.nodup_cons.2 ⟨hn, h⟩
theorem HeldAt.ofOut {w : World} {mh : Nat} {out l : List Nat} (h : MapIs Tryz.prog 3 w mh out.length (gOut out)) (ho : out.Nodup) (hl : l.Nodup) (hm : ∀ n, n ∈ out ↔ n ∈ l) : HeldAt w mh l := by
  have hp : out.Perm l := (List.perm_ext_iff_of_nodup ho hl).2 hm
  refine ⟨gOut out, by rw [← hp.length_eq]; exact h, fun key v hg => ?_, fun n hn => by rw [gOut_int, if_pos ((hm n).2 hn)]⟩
  unfold gOut at hg
  split at hg
  · rename_i hx
    obtain ⟨n, h1, h2⟩ := hx
    exact ⟨n, h2, (hm n).1 h1⟩
  · cases hg
theorem nodup_nat_le {out : List Nat} {l : List (ByteArray × ABlob)} (hn : out.Nodup) (h : ∀ n ∈ out, ∃ p ∈ l, p.2.pack = n) : out.length ≤ l.length := by
  have hsub : ∀ n ∈ out, n ∈ l.map (·.2.pack) := fun n hn => by obtain ⟨p, h1, h2⟩ := h n hn; exact List.mem_map.2 ⟨p, h1, h2⟩
  have key : ∀ (a b : List Nat), a.Nodup → (∀ n ∈ a, n ∈ b) → a.length ≤ b.length := by
    intro a
    induction a with
    | nil => intro b _ _; simp
    | cons x a ih =>
      intro b ha hb
      obtain ⟨h1, h2⟩ := List.nodup_cons.1 ha
      obtain ⟨u, v, rfl⟩ := List.append_of_mem (hb x (by simp))
      have := ih (u ++ v) h2 (fun n hn => by
        have h3 := hb n (by simp [hn])
        rcases List.mem_append.1 h3 with h3 | h3
        · exact List.mem_append_left _ h3
        · rcases List.mem_cons.1 h3 with rfl | h3
          · exact absurd hn h1
          · exact List.mem_append_right _ h3)
      simp only [List.length_append, List.length_cons] at this ⊢
      omega
  have := key _ _ hn hsub
  rw [List.length_map] at this
  exact this
def PacksPost (w : World) (l : List Nat) (e : Ending) (w' : World) : Prop := ∃ mh, e = .returned (.map (some mh)) ∧ w.heap.size ≤ mh ∧ mh < w'.heap.size ∧ HeldAt w' mh l ∧ Below w.heap.size w w'
open Classical in
set_option maxRecDepth 100000 in
set_option maxHeartbeats 4000000 in
theorem pgpacks_any (w : World) (q mk : Nat) (S : Nat → Prop) (g : Value → Option Value) (l : List (ByteArray × ABlob)) (c2 : w.cell? ⟨q, 2, none⟩ = some (.map (some mk))) (hk : KeysAt w mk S g l) (hs : SortedB l) (hp : ∀ p ∈ l, p.2.pack ≤ 9007199254740992) (hl : l.length ≤ 4096) :
    Calls Tryz.prog 48 #[.pointer (some ⟨q, 0, none⟩)] w (PacksPost w (packsOf l)) := by
  have hA : Below w.heap.size w (w.alloc (.map #[] 0)) := (Below.refl _ _).alloc (Nat.le_refl _) _
  obtain ⟨w1, hw1⟩ : ∃ w1, w.alloc (.map #[] 0) = w1 := ⟨_, rfl⟩
  have hm1 : MapIs Tryz.prog 3 w1 w.heap.size 0 (gOut []) := by
    rw [← hw1]
    have := MapIs.made Tryz.prog 3 w
    have e : gOut [] = fun _ => none := by funext v; unfold gOut; rw [if_neg (by rintro ⟨n, hn, _⟩; cases hn)]
    rw [e]; exact this
  have hlt := cell_lt c2
  have hmk := hk.map.lt
  rw [hw1] at hA
  have c21 := (hA.cell (p := ⟨q, 2, none⟩) hlt).trans c2
  have hk1 : MapIs Tryz.prog 9 w1 mk l.length g := hk.map.upd (Upd.ofBelow (fp := noFp) hA) (fun h => h)
  have hs1 : w1.heap.size = w.heap.size + 1 := by rw [← hw1]; simp
  have Hw1 := Lib.hid hw1
  have HK := Lib.hid hk
  have HA := Lib.hid hA
  clear hw1 hk hA
  have hmm := @run_makeMap Tryz.prog
  go_enter Tryz.func48, Tryz.ntmps48
  go_wp2_with first
    | (rw [Hw1.out]; refine wpList_range_of rfl (.tmp 10) 56 rfl 104 Tryz.underlying56 rfl hk1 ?_; intro w2 hR2 hb2 hs2)
  clear hmm
  go_frame
  obtain ⟨r, hr⟩ : ∃ r, w1.heap.size = r := ⟨_, rfl⟩
  rw [hr] at hR2 hs2 ⊢
  have hm2 : MapIs Tryz.prog 3 w2 w.heap.size 0 (gOut []) := by exact hm1.upd (Upd.ofBelow (fp := noFp) hb2) (fun h => h)
  have hB2 : Below w.heap.size w w2 := HA.out.trans (hb2.mono (by omega))
  have hcov0 : ∀ s x, kB l s = some x → 0 < x.pack → (g (.string s)).isSome = true ∨ x.pack ∈ ([] : List Nat) := fun s x hx _ => by
    obtain ⟨vb, e1, _⟩ := HK.out.val s x hx
    exact Or.inl (by rw [e1]; rfl)
  have Hcov0 := Lib.hid hcov0
  have hne : r ≠ mk := by omega
  have hne2 : r ≠ w.heap.size := by omega
  have hrw : w.heap.size ≤ r := by omega
  have HB2 := Lib.hid hB2
  have Hm2 := Lib.hid hm2
  have hs2s : w2.heap.size = r + 1 := by omega
  clear hcov0 hB2 hm2 hm1 hk1 c21 hb2 hs2 hs1 hr
  go_loopw [5] (fun _ wr => ∃ (cnt : Nat) (R : Value → Prop) (out : List Nat), RangeOf Tryz.prog 9 wr mk r l.length g cnt R ∧ MapIs Tryz.prog 3 wr w.heap.size out.length (gOut out) ∧ out.Nodup ∧ (∀ s x, kB l s = some x → 0 < x.pack → R (.string s) ∨ x.pack ∈ out) ∧ (∀ n ∈ out, 0 < n ∧ ∃ p ∈ l, p.2.pack = n) ∧ Below w.heap.size w wr ∧ w2.heap.size ≤ wr.heap.size) (fun _ wr => wr.rangeLeft mk r)
  case atStart => exact ⟨_, _, [], hR2, Hm2.out, List.nodup_nil, Hcov0.out, fun n hn => (by cases hn), HB2.out, Nat.le_refl _⟩
  case round =>
    obtain ⟨cnt, R, out, hR, hM, hnd, hcov, hsnd, hB, hsz⟩ := hrel
    clear hR2
    go_wp2_with (refine wpList_next_of rfl (.tmp 11) rfl rfl hR ?_ ?_)
    · intro h0 hRn
      have hall : ∀ n, n ∈ out ↔ n ∈ packsOf l := by
        intro n
        rw [packsOf_mem]
        constructor
        · exact hsnd n
        · rintro ⟨n0, p, hp1, hp2⟩
          have := hcov p.1 p.2 (mem_kB hs hp1) (by omega)
          rcases this with h | h
          · exact absurd h (hRn _)
          · rw [← hp2]; exact h
      have Hfin := Lib.hid (HeldAt.ofOut hM hnd (once_nodup _) hall)
      clear hall hcov hsnd hRn hM
      go_wp2
      go_ret
      exact ⟨w.heap.size, rfl, Nat.le_refl _, by omega, Hfin.out, hB⟩
    · intro key v w3 cnt' R' hgk hR3 hlt3 hcov3 hU3 hen
      obtain ⟨s, x, rfl, hx⟩ := HK.out.dom key v hgk
      obtain ⟨vb, hg', hrd, _⟩ := HK.out.val s x hx
      obtain ⟨av, cv, rfl⟩ := hrd.shape
      rw [hg'] at hgk
      cases hgk
      have hpk := hp (s, x) (kB_some_mem hx)
      simp only at hpk
      obtain ⟨bl, hbl⟩ : ∃ n, (bcells x.b).length = n := ⟨_, rfl⟩
      rw [hbl] at hen
      obtain ⟨pk, hpk2⟩ : ∃ pk, x.pack = pk := ⟨_, rfl⟩
      obtain ⟨ps, hps2⟩ : ∃ ps, x.pos = ps := ⟨_, rfl⟩
      rw [hpk2] at hpk
      rw [hpk2, hps2] at hen
      obtain ⟨w4, hw4⟩ : ∃ w4, w3.alloc (.cells #[.slice av bl cv, .int .i64 pk, .int .i64 ps] 104) = w4 := ⟨_, rfl⟩
      have hA4 : Below w3.heap.size w3 w4 := by rw [← hw4]; exact (Below.refl _ _).alloc (Nat.le_refl _) _
      have hU4 : Upd (· = r) wr w4 := hU3.thenBelow hA4 hU3.size
      have hR4 : RangeOf Tryz.prog 9 w4 mk r l.length g cnt' R' := hR3.upd (Upd.ofBelow (fp := noFp) hA4) (fun h => h) (fun h => h)
      have hM4 : MapIs Tryz.prog 3 w4 w.heap.size out.length (gOut out) := hM.upd hU4 (fun e => hne2 e.symm)
      have hB4 : Below w.heap.size w w4 := hB.trans (hU4.below (fun k hk => by rw [hk]; exact hrw) hB.size)
      have hs4 : w2.heap.size ≤ w4.heap.size := Nat.le_trans hsz hU4.size
      have hleft : w4.rangeLeft mk r < wr.rangeLeft mk r := by rw [hR4.is.left, hR.is.left]; exact hlt3
      have Hw4 := Lib.hid hw4
      have HR4 := Lib.hid hR4
      have HB4 := Lib.hid hB4
      have Hlf := Lib.hid hleft
      have hky := keyOf_int_mk Tryz.underlying3 (q := .i64) (a := (pk : Int)) (by simp [Lit.wf, IntKind.min, IntKind.max, IntKind.signed, IntKind.bits]; omega)
      by_cases h0 : 0 < pk
      · have h0I : (0 : Int) < (pk : Int) := by omega
        have hn' : (addN out pk).length = if (gOut out (.int .i64 pk)).isSome then out.length else out.length + 1 := by
          rw [gOut_int]
          unfold addN
          split <;> simp
        have hroom : out.length < maxLen := by
          have h1 := nodup_nat_le hnd (fun n hn => (hsnd n hn).2) 
          simp only [maxLen]; omega
        have hcov5 : ∀ t y, kB l t = some y → 0 < y.pack → R' (.string t) ∨ y.pack ∈ addN out pk := by
          intro t y hy hy0
          rcases hcov t y hy hy0 with h | h
          · rcases hcov3 _ h with e | h
            · right
              injection e with e
              subst e
              rw [hx] at hy
              cases hy
              rw [hpk2]
              exact (addN_mem _ _ _).2 (Or.inl rfl)
            · exact Or.inl h
          · exact Or.inr ((addN_mem _ _ _).2 (Or.inr h))
        have hsnd5 : ∀ n ∈ addN out pk, 0 < n ∧ ∃ p ∈ l, p.2.pack = n := by
          intro n hn
          rcases (addN_mem _ _ _).1 hn with rfl | hn
          · exact ⟨h0, (s, x), kB_some_mem hx, hpk2⟩
          · exact hsnd n hn
        have Hn' := Lib.hid hn'
        have Hc5 := Lib.hid (And.intro hcov5 hsnd5)
        clear hn' hcov5 hsnd5 hcov hsnd hcov3 hR4 hB4 hleft hw4 hR3 hg' hrd hx hbl hpk2 hps2 h0
        go_wp2_with first
          | (rw [Hw4.out]; refine wpList_map_update rfl (.tmp 19) (.tmp 21) (.const (.int .i64 1)) 57 3 3 rfl Tryz.underlying57 keyedI w.heap.size _ (gOut out) hM4 rfl (.int .i64 pk) rfl _ hky (.int .i64 1) rfl hroom (addN out pk).length Hn'.out ?_; intro w5 hm5 hg5 hs5; have Hm5 := Lib.hid hm5; clear hm5)
        have hU5 : Upd (· = w.heap.size) w4 w5 := (Upd.refl _ _).grown hg5 (fun j hj => by cases hj; exact Or.inl rfl)
        have hR5 := HR4.out.upd hU5 (fun e => by omega) hne2
        have hM5 : MapIs Tryz.prog 3 w5 w.heap.size (addN out pk).length (gOut (addN out pk)) := by rw [← gOut_add]; exact Hm5.out
        have hl5 : w5.rangeLeft mk r < wr.rangeLeft mk r := by rw [hR5.is.left, hR.is.left]; exact hlt3
        have hB5 : Below w.heap.size w w5 := HB4.out.trans (hU5.below (fun k hk => by rw [hk]; exact Nat.le_refl _) HB4.out.size)
        have H5 := Lib.hid (And.intro hR5 (And.intro hM5 (And.intro hl5 hB5)))
        clear hR5 hM5 hl5 hB5
        go_roundw
        case rel => exact ⟨_, _, _, _, _, _, _, _, _, _, _, ⟨cnt', R', addN out pk, H5.out.1, H5.out.2.1, addN_nodup hnd pk, Hc5.out.1, Hc5.out.2, H5.out.2.2.2, Nat.le_trans hs4 hU5.size⟩, rfl⟩
        case measure => exact H5.out.2.2.1
      · have h0I : ¬ (0 : Int) < (pk : Int) := by omega
        have hcov5 : ∀ t y, kB l t = some y → 0 < y.pack → R' (.string t) ∨ y.pack ∈ out := by
          intro t y hy hy0
          rcases hcov t y hy hy0 with h | h
          · rcases hcov3 _ h with e | h
            · injection e with e
              subst e
              rw [hx] at hy
              cases hy
              omega
            · exact Or.inl h
          · exact Or.inr h
        have Hc5 := Lib.hid (And.intro hcov5 hsnd)
        clear hcov5 hcov hsnd hcov3 hR4 hB4 hleft hw4 hR3 hg' hrd hx hbl hpk2 hps2 h0
        go_wp2
        go_roundw
        case rel => rw [Hw4.out]; exact ⟨cnt', R', out, HR4.out, hM4, hnd, Hc5.out.1, Hc5.out.2, HB4.out, hs4⟩
        case measure => rw [Hw4.out]; exact Hlf.out
end Go.Proofs.YtbepcjajbcecnaaGreatDoor

/-
  The last step of a commit: the rename.
-/
namespace Go.Proofs.YtbepcjajbcecnaaGreatDoor
open Go.RowKit Go.Maps Go.MapKept
set_option linter.unusedSimpArgs false

structure RBox (ex : Nat → Prop) (w : World) (q p bs bn n : Nat) : Prop where
  cs : w.cell? ⟨bs, 0, none⟩ = some (.pointer (some ⟨q, 0, none⟩))
  cn : w.cell? ⟨bn, 0, none⟩ = some (.int .i64 n)
  cq : w.cell? ⟨q, 0, none⟩ = some (.pointer (some ⟨p, 0, none⟩))
  xs : ex bs
  xn : ex bn
  xq : ex q
  gl : GlIn ex
  env : WEnv w
  le : n ≤ 9007199254740992
section
variable {ex : Nat → Prop} {w : World} {q p m bs bn n : Nat}
theorem RBox.keep {w' : World} (h : RBox ex w q p bs bn n) (hk : Keep ex w w') : RBox ex w' q p bs bn n :=
  ⟨(hk.cell h.xs 0).trans h.cs, (hk.cell h.xn 0).trans h.cn, (hk.cell h.xq 0).trans h.cq, h.xs, h.xn, h.xq, h.gl, h.env.keep hk h.gl, h.le⟩
set_option maxRecDepth 100000 in
set_option maxHeartbeats 2000000 in
theorem pgCommit1_at (hb : RBox ex w q p bs bn n) : StepC ex p m (54, #[.pointer (some ⟨bs, 0, none⟩), .pointer (some ⟨bn, 0, none⟩)]) (renS freshI (iName n)) w := by
  intro w' d hK0 h
  have hb := hb.keep hK0
  clear hK0
  have k1 := hb.cs
  have k2 := hb.cn
  have k3 := hb.cq
  have hn := pgfile_any w'.drew 105 n (Nat.le_succ_of_le hb.le) hb.env.drew
  have hs : (iName n).size ≤ 17 := pgName_size hb.le
  rw [show pgName 105 n = iName n from rfl] at hn
  generalize iName n = s at hn hs ⊢
  have hR := fun wX (hX : DiskAt ex wX p m d) => Rename_at freshI s hX (by decide) (Nat.le_trans hs (by decide))
  unfold renS
  have HR := Lib.hid hR
  have Hn := Lib.hid hn
  have Hb := Lib.hid hb
  clear hR hn hb hs
  go_enter Tryz.func54, Tryz.ntmps54
  go_wp2
  go_region_held3 (fun w'' => w''.cell? ⟨bs, 0, none⟩ = some (.pointer (some ⟨q, 0, none⟩)) ∧ w''.cell? ⟨q, 0, none⟩ = some (.pointer (some ⟨p, 0, none⟩)) ∧ w''.cell? ⟨bn, 0, none⟩ = some (.int .i64 n)) (first | exact ⟨k1, k3, k2⟩ | exact S2 | exact S3 | go_keep)
    (first
      | (go_at_call 52; refine Hn.out.mono ?_; rintro e w1 ⟨rfl, hB⟩; have S2 : w1.cell? ⟨bs, 0, none⟩ = some (.pointer (some ⟨q, 0, none⟩)) ∧ w1.cell? ⟨q, 0, none⟩ = some (.pointer (some ⟨p, 0, none⟩)) ∧ w1.cell? ⟨bn, 0, none⟩ = some (.int .i64 n) := ⟨(hB.cell (p := ⟨bs, 0, none⟩) (cell_lt k1)).trans k1, (hB.cell (p := ⟨q, 0, none⟩) (cell_lt k3)).trans k3, (hB.cell (p := ⟨bn, 0, none⟩) (cell_lt k2)).trans k2⟩)
      | (go_at_call 55; refine (HR.out w1 (h.below (((Below.refl _ _).drew).trans hB))).mono ?_; rintro e w2 ⟨rfl, hD, hK⟩; have S3 : w2.cell? ⟨bs, 0, none⟩ = some (.pointer (some ⟨q, 0, none⟩)) ∧ w2.cell? ⟨q, 0, none⟩ = some (.pointer (some ⟨p, 0, none⟩)) ∧ w2.cell? ⟨bn, 0, none⟩ = some (.int .i64 n) := ⟨(hK.cell Hb.out.xs 0).trans S2.1, (hK.cell Hb.out.xq 0).trans S2.2.1, (hK.cell Hb.out.xn 0).trans S2.2.2⟩))
  go_wp2
  go_ret
  exact ⟨rfl, hD, (Keep.ofBelow (((Below.refl _ _).drew).trans hB) (fun k hk => h.lt hk)).trans hK⟩
set_option maxRecDepth 100000 in
theorem ent_pgfile1 (P : Array Value) : Enters (93, P) := by
  intro w
  show Sem.run Tryz.prog (callFunc 93 P) w = .ok (.enter 93 P) w
  kernel_rfl
set_option maxRecDepth 100000 in
theorem ent_pgfile2 (P : Array Value) : Enters (95, P) := by
  intro w
  show Sem.run Tryz.prog (callFunc 95 P) w = .ok (.enter 95 P) w
  kernel_rfl
set_option maxRecDepth 100000 in
theorem ent_pgfile3 (P : Array Value) : Enters (96, P) := by
  intro w
  show Sem.run Tryz.prog (callFunc 96 P) w = .ok (.enter 96 P) w
  kernel_rfl
set_option maxRecDepth 100000 in
theorem ent_pgCommit1 (P : Array Value) : Enters (54, P) := by
  intro w
  show Sem.run Tryz.prog (callFunc 54 P) w = .ok (.enter 54 P) w
  kernel_rfl
end
end Go.Proofs.YtbepcjajbcecnaaGreatDoor

/-
  What goes when files of other commits go: one name, decided; a name appended to those that are gone.
-/
namespace Go.Proofs.YtbepcjajbcecnaaGreatDoor
open Go.RowKit Go.Maps Go.MapKept
set_option linter.unusedSimpArgs false

/-- how a name is decided. -/
inductive Dec5 (k : Nat) (held : List Nat) (s : ByteArray) : Prop
  | fresh (h : s = freshI) (ho : pOther k held s = true)
  | none (h : s ≠ freshI) (hn : pgNum s = none) (ho : pOther k held s = false)
  | index (n : Nat) (h : s ≠ freshI) (hn : pgNum s = some (105, n)) (hb : n ≤ 9007199254740992) (ho : pOther k held s = decide (n ≠ k))
  | pack (n : Nat) (h : s ≠ freshI) (hn : pgNum s = some (99, n)) (hb : n ≤ 9007199254740992) (ho : pOther k held s = decide (n ∉ held))
theorem dec5 (k : Nat) (held : List Nat) (s : ByteArray) : Dec5 k held s := by
  by_cases h : s = freshI
  · exact .fresh h (by unfold pOther; rw [if_pos h])
  · cases hn : pgNum s with
    | none => exact .none h hn (by unfold pOther; rw [if_neg h, hn])
    | some x =>
      obtain ⟨c, n⟩ := x
      obtain ⟨_, hc, _, hb⟩ := pgNum_some hn
      rcases hc with rfl | rfl
      · exact .index n h hn hb (by unfold pOther; rw [if_neg h, hn]; simp)
      · exact .pack n h hn hb (by unfold pOther; rw [if_neg h, hn]; simp)
theorem sCells_app5 (l m : List ByteArray) : sCells (l ++ m) = sCells l ++ sCells m := by simp [sCells]
theorem info_str5 : (Tryz.prog.info? 9).map (fun i => (i.zero, i.size, i.bytes)) = some (some (.string ⟨#[]⟩), 1, 16) := by kernel_rfl
theorem append_str5 {w : World} {ops : Array Oper} {rest : List Oper} {o : Oper} {a : Act} {Q : Exit → Act → World → Prop} (hgd : Region.wanted o (yielded ops a.tmps) = true) (s x : Operand)
    (ho : o.op = .call { callee := .builtin .append, args := #[s, x], argTypes := #[34, 34] })
    (v vx : Value) (l m r : List ByteArray) (n : Nat) (hn : n = l.length) (hlm : l ++ m = r) (hs : a.eval s = v) (hown : w.ownsRow 0 9 1 v n (sCells l)) (hx : a.eval x = vx) (hrd : Rd w vx (sCells m))
    (h63 : l.length + m.length ≤ 1000000)
    (h : ∀ v' w', w'.ownsRow 0 9 1 v' r.length (sCells r) → w.grownBy w' v.ownBlock → (v'.ownBlock = v.ownBlock ∨ ∃ g, v'.ownBlock = some g ∧ w.heap.size ≤ g) → wpList Tryz.prog ops Q rest (a.put o.dst v') w') : wpList Tryz.prog ops Q (o :: rest) a w := by
  subst hlm
  subst hn
  obtain ⟨i0, hi, hz0, hz1, hz2⟩ := info_parts info_str5
  refine wpList_append_rd hgd s x 34 ho 9 i0 (.string ⟨#[]⟩) 16 Tryz.underlying34 hi hz0 hz1 hz2 rfl v vx l.length m.length (sCells l) (sCells m) hs hown hx hrd (by simp [sCells_length]) (fun u hu => by obtain ⟨_, _, rfl⟩ := List.mem_map.1 hu; rfl) (by simp only [maxLen]; omega) (by omega) ?_
  intro v' w' h1 h2 h3 _
  rw [← sCells_app5, ← List.length_append] at h1
  exact h v' w' h1 h2 h3
theorem row_str5 {w : World} {base n : Nat} {v : Value} {xs : List Value} (h : w.ownsRow base 9 1 v n xs) : ∃ a c, v = .slice a n c := by
  obtain ⟨_, ⟨rfl, rfl⟩ | ⟨g, cap, _, rfl, _⟩⟩ := h
  · exact ⟨_, _, rfl⟩
  · exact ⟨_, _, rfl⟩
/-- what is held, looked up. -/
theorem HeldAt.look {w : World} {mh : Nat} {l : List Nat} (h : HeldAt w mh l) : ∃ g, MapIs Tryz.prog 3 w mh l.length g ∧ ∀ n : Nat, (g (.int .i64 n)).getD (.int .i64 0) = .int .i64 (if n ∈ l then 1 else 0) := by
  obtain ⟨g, h1, h2, h3⟩ := h.map
  refine ⟨g, h1, fun n => ?_⟩
  by_cases hn : n ∈ l
  · rw [h3 n hn, if_pos hn]; rfl
  · rw [if_neg hn]
    cases hg : g (.int .i64 n) with
    | none => rfl
    | some v =>
      obtain ⟨k, e, hk⟩ := h2 _ _ hg
      injection e with _ e
      have : n = k := by omega
      subst this
      exact absurd hk hn
theorem zero_int5 (w : World) : (zeroValue 3).run Tryz.prog w = .ok (.int .i64 0) w := by kernel_rfl
/-- so far as the names have been looked at. -/
theorem pFreeL_step (k : Nat) (held : List Nat) (d : ADisk) (s : ByteArray) (r : List ByteArray) : pFreeL k held d (s :: r) =
    if pOther k held s then (if d.removeErr s ≠ 0 then (d.remove s, [], d.removeErr s) else ((pFreeL k held (d.remove s) r).1, s :: (pFreeL k held (d.remove s) r).2.1, (pFreeL k held (d.remove s) r).2.2)) else pFreeL k held d r := rfl
end Go.Proofs.YtbepcjajbcecnaaGreatDoor

/-
  Files of other commits go.
-/
namespace Go.Proofs.YtbepcjajbcecnaaGreatDoor
open Go.RowKit Go.Maps Go.MapKept
set_option linter.unusedSimpArgs false

section
variable {exx : Nat → Prop} {w1 w2 w3 w4 : World} {q p m : Nat} {dj d2 : ADisk} {st : AStore} {mk mh : Nat} {S : Nat → Prop} {g : Value → Option Value} {v v' : Value} {out r : List ByteArray} {o : Obj}
theorem free_stop (hv : StoreV (fun k => exx k ∨ v.ownBlock = some k) w2 q p m dj st mk mh S g) (hr : w2.ownsRow w1.heap.size 9 1 v out.length (sCells out)) (hK : Keep exx w1 w2)
    (hD3 : DiskAt (fun k => (exx k ∨ v.ownBlock = some k) ∨ k = q ∨ k = mk ∨ k = mh ∨ S k) w3 p m d2) (hK3 : Keep (fun k => (exx k ∨ v.ownBlock = some k) ∨ k = q ∨ k = mk ∨ k = mh ∨ S k) w2 w3) :
    w3.ownsRow w1.heap.size 9 1 v out.length (sCells out) ∧ StoreV (fun k => exx k ∨ v.ownBlock = some k) w3 q p m d2 st mk mh S g ∧ Keep exx w1 w3 := by
  obtain ⟨h1, h2⟩ := hv.disk_turned hD3 hK3
  exact ⟨hK3.row hr (fun b hb => Or.inl (Or.inr hb)), h1, hK.trans (h2.mono (fun _ h => Or.inl h))⟩
theorem free_added (hl : ∀ k, exx k → k < w1.heap.size) (hv : StoreV (fun k => exx k ∨ v.ownBlock = some k) w2 q p m dj st mk mh S g) (hr : w2.ownsRow w1.heap.size 9 1 v out.length (sCells out)) (hK : Keep exx w1 w2)
    (hD3 : DiskAt (fun k => (exx k ∨ v.ownBlock = some k) ∨ k = q ∨ k = mk ∨ k = mh ∨ S k) w3 p m d2) (hK3 : Keep (fun k => (exx k ∨ v.ownBlock = some k) ∨ k = q ∨ k = mk ∨ k = mh ∨ S k) w2 w3)
    (g1 : w4.ownsRow 0 9 1 v' r.length (sCells r)) (g2 : (w3.alloc o).grownBy w4 v.ownBlock) (g3 : v'.ownBlock = v.ownBlock ∨ ∃ g, v'.ownBlock = some g ∧ (w3.alloc o).heap.size ≤ g) :
    w4.ownsRow w1.heap.size 9 1 v' r.length (sCells r) ∧ StoreV (fun k => exx k ∨ v'.ownBlock = some k) w4 q p m d2 st mk mh S g ∧ Keep exx w1 w4 := by
  obtain ⟨h1, h2, h3⟩ := free_stop hv hr hK hD3 hK3
  have hU : Upd (fun k => v.ownBlock = some k) w3 w4 := ((Upd.refl _ w3).alloc o).grown g2 (fun k hk => Or.inl hk)
  have hs : (w3.alloc o).heap.size = w3.heap.size + 1 := by simp
  have h13 := h3.size
  refine ⟨ownsRow_from g1 (fun b hb => ?_), h2.more_upd hU (fun k _ hk => Or.inr hk) (fun k hk => ?_), h3.trans (Keep.ofUpd hU (fun k hk => ⟨Nat.lt_of_lt_of_le (hl k hk) h3.size, fun e => by have := row_from h1 e; have := hl k hk; omega⟩))⟩
  · rcases g3 with g3 | ⟨b', g3, g4⟩
    · exact row_from h1 (g3 ▸ hb)
    · rw [g3] at hb; cases hb; omega
  · rcases hk with hk | hk
    · exact Or.inl (Or.inl hk)
    · rcases g3 with g3 | ⟨b', g3, g4⟩
      · exact Or.inl (Or.inr (g3 ▸ hk))
      · refine Or.inr ⟨?_, row_lt g1 hk⟩
        rw [g3] at hk; cases hk; omega
end
section
variable {ex : Nat → Prop} {w : World} {q p m : Nat} {d : ADisk} {st : AStore}
def FreePost (ex : Nat → Prop) (w : World) (q p m : Nat) (st : AStore) (t : ADisk × List ByteArray × Int) (e : Ending) (w' : World) : Prop :=
  ∃ a c, e = .returned (.tuple #[.slice a t.2.1.length c, .int .i64 t.2.2]) ∧ w'.ownsRow w.heap.size 9 1 (.slice a t.2.1.length c) t.2.1.length (sCells t.2.1) ∧ StoreAt (fun j => ex j ∨ (Value.slice a t.2.1.length c).ownBlock = some j) w' q p m t.1 st ∧ Keep ex w w'
set_option maxRecDepth 100000 in
set_option maxHeartbeats 4000000 in
theorem pgfree_at (h : StoreAt ex w q p m d st) (hE : WEnv w) (hG : GlIn ex) :
    Calls Tryz.prog 61 #[.pointer (some ⟨q, 0, none⟩)] w (FreePost ex w q p m st (pFree d st.k st.held)) := by
  obtain ⟨mk, mh, S, g, hv⟩ := h
  obtain ⟨c0, c1, c2, c3, c4, _⟩ := cells5 hv.blk
  have hwf := hv.disk.wf
  have hL := List_at hv.disk
  obtain ⟨n, hn⟩ : ∃ n, d.names.length = n := ⟨_, rfl⟩
  have hn200 : n ≤ 200 := by rw [← hn]; unfold ADisk.names; rw [List.length_map]; exact hwf.count
  rw [hn] at hL
  have Hn := Lib.hid hn
  have HL := Lib.hid hL
  have HV := Lib.hid hv
  have HE := Lib.hid hE
  clear hL hv hE hn
  go_enter Tryz.func61, Tryz.ntmps61
  go_wp2_with (go_at_call 15; refine HL.out.mono ?_; rintro e w1 ⟨an, cn, rfl, hrow, _, hB1⟩)
  clear c0 c1 c2 c3 c4
  obtain ⟨X, hX⟩ : ∃ X : Nat → Prop, X = fun k => w.heap.size ≤ k ∧ k < w1.heap.size := ⟨_, rfl⟩
  have hv1 : StoreV (fun k => ex k ∨ X k) w1 q p m d st mk mh S g := HV.out.more hB1 (fun k hk => hk.imp id (fun h => by rw [hX] at h; exact h))
  have hXl : ∀ k, ex k ∨ X k → k < w1.heap.size := fun k hk => hv1.lt hk
  have hrd : Rd w1 (.slice an n cn) (d.names.map Value.string) := Rd.ofOwns hrow
  have hXn : ∀ b, (Value.slice an n cn).ownBlock = some b → X b := fun b hb => by rw [hX]; exact ⟨row_from hrow hb, row_lt hrow hb⟩
  have hK1 : Keep ex w w1 := Keep.ofBelow hB1 (fun k hk => HV.out.lt hk)
  obtain ⟨F, hF⟩ : ∃ F, pFree d st.k st.held = F := ⟨_, rfl⟩
  have hF0 : F = ((pFreeL st.k st.held d (d.names.drop 0)).1, ([] : List ByteArray) ++ (pFreeL st.k st.held d (d.names.drop 0)).2.1, (pFreeL st.k st.held d (d.names.drop 0)).2.2) := by rw [← hF]; rfl
  have HFe := Lib.hid hF
  have HF0 := Lib.hid hF0
  have Hwf := Lib.hid hwf
  have Hrd := Lib.hid hrd
  have HXn := Lib.hid hXn
  have HK1 := Lib.hid hK1
  have HE1 := Lib.hid (HE.out.below hB1)
  have HB1 := Lib.hid hB1
  have Hv1 := Lib.hid (hv1.mono (ex' := fun k => (ex k ∨ X k) ∨ (Value.slice none 0 0).ownBlock = some k) (fun k hk => hk.elim id (fun h => (by cases h))))
  have HXl := Lib.hid hXl
  clear hF0 hrd hXn hK1 hv1 hF hrow hB1 hX hXl hwf
  go_loopw [5, 22] (fun ov iv wr => ∃ (j : Nat) (dj : ADisk) (out : List ByteArray) (a : Option Addr) (c : Nat), j ≤ n ∧ iv = .int .i64 j ∧ ov = .slice a out.length c ∧ out.length ≤ j ∧ wr.ownsRow w1.heap.size 9 1 (.slice a out.length c) out.length (sCells out) ∧
    StoreV (fun k => (ex k ∨ X k) ∨ (Value.slice a out.length c).ownBlock = some k) wr q p m dj st mk mh S g ∧ Keep (fun k => ex k ∨ X k) w1 wr ∧ F = ((pFreeL st.k st.held dj (d.names.drop j)).1, out ++ (pFreeL st.k st.held dj (d.names.drop j)).2.1, (pFreeL st.k st.held dj (d.names.drop j)).2.2)) (fun _ iv _ => n - (intOf iv).toNat)
  case atStart => exact ⟨0, d, [], none, 0, by omega, rfl, rfl, Nat.le_refl _, World.ownsRow_nil _ _ _ _, Hv1.out, Keep.refl _ _, HF0.out⟩
  case round =>
    obtain ⟨j, dj, out, a, c, hj, rfl, rfl, hoj, hrow, hv, hK, hF⟩ := hrel
    have Hrow := Lib.hid hrow
    have Hv := Lib.hid hv
    have HK := Lib.hid hK
    have hBk : w.heap.size ≤ w1.heap.size := HB1.out.size
    have hKw : Keep ex w wr := HK1.out.trans (hK.mono (fun _ h => Or.inl h))
    have hfin : ∀ b, (Value.slice a out.length c).ownBlock = some b → w.heap.size ≤ b := fun b hb => Nat.le_trans hBk (row_from hrow hb)
    have HKw := Lib.hid hKw
    have Hfin := Lib.hid hfin
    clear hrow hv hK hKw hfin
    by_cases hlt : j < n
    · have hjn : j < d.names.length := by rw [Hn.out]; exact hlt
      obtain ⟨bb, oo, rfl, hcl⟩ := Hrd.out.at j (by rw [List.length_map]; exact hjn)
      obtain ⟨s, hs⟩ : ∃ s, d.names[j] = s := ⟨_, rfl⟩
      rw [List.getElem_map, hs] at hcl
      have hcr := (HK.out.cell (b := bb) (Or.inr (HXn.out bb rfl)) (oo + j)).trans hcl
      have hmem : s ∈ d.names := by rw [← hs]; exact List.getElem_mem hjn
      have hsz : s.size ≤ 40 := by
        obtain ⟨q, hq, e⟩ := List.mem_map.1 hmem
        have := Hwf.out.names q hq
        rw [← e]
        unfold okName at this
        simp at this
        omega
      have hdr : d.names.drop j = s :: d.names.drop (j + 1) := by rw [← hs]; exact (List.getElem_cons_drop hjn).symm
      rw [hdr, pFreeL_step] at hF
      have hEr : WEnv wr := HE.out.keep HKw.out hG
      have hN := pgnumber_any wr s (by omega) hEr
      have hji : (j : Int) < (n : Int) := by omega
      have hj0 : (0 : Int) ≤ (j : Int) := by omega
      have hstep : ∀ w2, Below wr.heap.size wr w2 → w2.ownsRow w1.heap.size 9 1 (.slice a out.length c) out.length (sCells out) ∧ StoreV (fun k => (ex k ∨ X k) ∨ (Value.slice a out.length c).ownBlock = some k) w2 q p m dj st mk mh S g ∧ Keep (fun k => ex k ∨ X k) w1 w2 := fun w2 hB2 =>
        ⟨(Upd.ofBelow (fp := noFp) hB2).row Hrow.out (fun _ _ h => h), Hv.out.below hB2, HK.out.trans (Keep.ofBelow hB2 (fun k hk => Hv.out.lt (Or.inl hk)))⟩
      have Hstep := Lib.hid hstep
      have HF := Lib.hid hF
      clear hcl hdr hmem hEr hstep hF hs
      rcases dec5 st.k st.held s with ⟨h1, ho⟩ | ⟨h1, hn, ho⟩ | ⟨nn, h1, hn, hb, ho⟩ | ⟨nn, h1, hn, hb, ho⟩
      · have hsf : (s.toList == [105, 46, 110, 101, 119]) = true := by
          have := strEq s freshI
          rw [decide_eq_true h1, show freshI.toList = [105, 46, 110, 101, 119] by rw [ByteArray.toList_eq]; rfl] at this
          exact this
        have hn : pgNum s = none := by rw [h1]; exact pgNum_fresh
        have hF2 := HF.out
        rw [if_pos ho] at hF2
        obtain ⟨er, her⟩ : ∃ er, dj.removeErr s = er := ⟨_, rfl⟩
        obtain ⟨d2, hd2⟩ : ∃ d2, dj.remove s = d2 := ⟨_, rfl⟩
        rw [her, hd2] at hF2
        have hRm := fun w2 (hB2 : Below wr.heap.size wr w2) => Remove_at s (Hstep.out w2 hB2).2.1.disk (Nat.le_trans hsz (by decide))
        rw [her, hd2] at hRm
        have HRm := Lib.hid hRm
        have HF2 := Lib.hid hF2
        have HN := Lib.hid hN
        have Hpn := Lib.hid hn
        clear hRm hF2 her hd2 hN h1 ho HF hn
        by_cases hz : er = 0
        · subst hz
          go_wp2_with first
            | (go_at_call 104; refine HN.out.mono ?_; rintro e w2 ⟨nz, he, hnz, hnum, hB2⟩; rw [Hpn.out] at he; obtain rfl := he; simp only [Option.isSome_none]; have d0 := cells5 (Hstep.out w2 hB2).2.1.blk; obtain ⟨d0, d1, _⟩ := d0; clear hnum)
            | (go_at_call 94; refine (HRm.out w2 hB2).mono ?_; rintro e w3 ⟨rfl, hD3, hK3⟩)
            | (at_builtin; refine append_str5 rfl (.tmp 70) (.tmp 72) rfl (.slice a out.length c) (.slice (some ⟨w3.heap.size, 0, none⟩) 1 1) out [s] (out ++ [s]) out.length rfl rfl rfl (ownsRow_base0 (((hK3.row (Hstep.out w2 hB2).1 (fun b hb => Or.inl (Or.inr hb)))) |> fun x => (Upd.ofBelow (fp := noFp) ((Below.refl _ _).alloc (Nat.le_refl _) _)).row x (fun _ _ h => h))) rfl (Rd_new _ _ _ _ (sCells [s]) _ _ rfl rfl) (by simp; omega) ?_; intro v' w4 g1 g2 g3; obtain ⟨a', c', rfl⟩ := row_str5 g1)
          have hA := free_added (exx := fun k => ex k ∨ X k) HXl.out (Hstep.out w2 hB2).2.1 (Hstep.out w2 hB2).1 (Hstep.out w2 hB2).2.2 hD3 hK3 g1 g2 g3
          have HA := Lib.hid hA
          clear hA g1 g2 g3
          go_roundw
          case rel =>
            refine ⟨j + 1, d2, out ++ [s], a', c', by omega, by go_num, by simp, by simp; omega, HA.out.1, HA.out.2.1, HA.out.2.2, ?_⟩
            rw [HF2.out, if_neg (by simp)]
            simp
          case measure => simp [intOf]; omega
        · have hzb : (er != 0) = true := by simpa using hz
          have Hz := Lib.hid hz
          clear hz
          go_wp2_with first
            | (go_at_call 104; refine HN.out.mono ?_; rintro e w2 ⟨nz, he, hnz, hnum, hB2⟩; rw [Hpn.out] at he; obtain rfl := he; simp only [Option.isSome_none]; have d0 := cells5 (Hstep.out w2 hB2).2.1.blk; obtain ⟨d0, d1, _⟩ := d0; clear hnum)
            | (go_at_call 94; refine (HRm.out w2 hB2).mono ?_; rintro e w3 ⟨rfl, hD3, hK3⟩)
          have hA := free_stop (exx := fun k => ex k ∨ X k) (Hstep.out w2 hB2).2.1 (Hstep.out w2 hB2).1 (Hstep.out w2 hB2).2.2 hD3 hK3
          have HA := Lib.hid hA
          clear hA
          go_ret2
          rw [HFe.out, HF2.out, if_pos Hz.out]
          refine ⟨a, c, by simp, by simpa using ownsRow_from (HA.out.1) Hfin.out, ⟨mk, mh, S, g, by simpa using HA.out.2.1.mono (fun k hk => hk.imp Or.inl id)⟩, (HK1.out.trans (HA.out.2.2.mono (fun _ h => Or.inl h)))⟩
      · have hsf : (s.toList == [105, 46, 110, 101, 119]) = false := by
          have := strEq s freshI
          rw [decide_eq_false h1, show freshI.toList = [105, 46, 110, 101, 119] by rw [ByteArray.toList_eq]; rfl] at this
          exact this
        have hF2 := HF.out
        rw [if_neg (by rw [ho]; simp)] at hF2
        have HF2 := Lib.hid hF2
        have HN := Lib.hid hN
        have Hpn := Lib.hid hn
        clear hF2 hN h1 ho HF hn
        go_wp2_with (go_at_call 104; refine HN.out.mono ?_; rintro e w2 ⟨nz, he, hnz, _, hB2⟩; rw [Hpn.out] at he; obtain rfl := he; simp only [Option.isSome_none])
        have h3 := Hstep.out w2 hB2
        have H3 := Lib.hid h3
        clear h3
        go_roundw
        case rel => exact ⟨j + 1, dj, out, a, c, by omega, by go_num, rfl, by omega, H3.out.1, H3.out.2.1, H3.out.2.2, HF2.out⟩
        case measure => simp [intOf]; omega
      · have hsf : (s.toList == [105, 46, 110, 101, 119]) = false := by
          have := strEq s freshI
          rw [decide_eq_false h1, show freshI.toList = [105, 46, 110, 101, 119] by rw [ByteArray.toList_eq]; rfl] at this
          exact this
        by_cases hnk : nn = st.k
        · have hF2 := HF.out
          rw [if_neg (by rw [ho]; simp [hnk])] at hF2
          have HF2 := Lib.hid hF2
          have HN := Lib.hid hN
          subst hnk
          have Hpn := Lib.hid hn
          clear hF2 hN h1 ho HF hn
          go_wp2_with (go_at_call 104; refine HN.out.mono ?_; rintro e w2 ⟨nz, he, hnz, hnum, hB2⟩; obtain ⟨e1, e2⟩ := hnum _ _ Hpn.out; rw [Hpn.out, e1, e2] at he; obtain rfl := he; simp only [Option.isSome_some]; have d1 := (cells5 (Hstep.out w2 hB2).2.1.blk).2.1; clear hnum e1)
          have h3 := Hstep.out w2 hB2
          have H3 := Lib.hid h3
          clear h3
          go_roundw
          case rel => exact ⟨j + 1, dj, out, a, c, by omega, by go_num, rfl, by omega, H3.out.1, H3.out.2.1, H3.out.2.2, HF2.out⟩
          case measure => simp [intOf]; omega
        · have hF2 := HF.out
          rw [if_pos (by rw [ho]; simpa using hnk)] at hF2
          have hnkI : ((nn : Int) == (st.k : Int)) = false := by
            have : (nn : Int) ≠ (st.k : Int) := by omega
            simpa using this
          obtain ⟨er, her⟩ : ∃ er, dj.removeErr s = er := ⟨_, rfl⟩
          obtain ⟨d2, hd2⟩ : ∃ d2, dj.remove s = d2 := ⟨_, rfl⟩
          rw [her, hd2] at hF2
          have hRm := fun w2 (hB2 : Below wr.heap.size wr w2) => Remove_at s (Hstep.out w2 hB2).2.1.disk (Nat.le_trans hsz (by decide))
          rw [her, hd2] at hRm
          have HRm := Lib.hid hRm
          have HF2 := Lib.hid hF2
          have HN := Lib.hid hN
          have Hpn := Lib.hid hn
          have Hnk := Lib.hid hnk
          clear hRm hF2 her hd2 hN h1 ho HF hn hnk
          by_cases hz : er = 0
          · subst hz
            go_wp2_with first
              | (go_at_call 104; refine HN.out.mono ?_; rintro e w2 ⟨nz, he, hnz, hnum, hB2⟩; obtain ⟨e1, e2⟩ := hnum _ _ Hpn.out; rw [Hpn.out, e1, e2] at he; obtain rfl := he; simp only [Option.isSome_some]; clear e1; have d0 := cells5 (Hstep.out w2 hB2).2.1.blk; obtain ⟨d0, d1, _⟩ := d0; clear hnum)
              | (go_at_call 94; refine (HRm.out w2 hB2).mono ?_; rintro e w3 ⟨rfl, hD3, hK3⟩)
              | (at_builtin; refine append_str5 rfl (.tmp 70) (.tmp 72) rfl (.slice a out.length c) (.slice (some ⟨w3.heap.size, 0, none⟩) 1 1) out [s] (out ++ [s]) out.length rfl rfl rfl (ownsRow_base0 (((hK3.row (Hstep.out w2 hB2).1 (fun b hb => Or.inl (Or.inr hb)))) |> fun x => (Upd.ofBelow (fp := noFp) ((Below.refl _ _).alloc (Nat.le_refl _) _)).row x (fun _ _ h => h))) rfl (Rd_new _ _ _ _ (sCells [s]) _ _ rfl rfl) (by simp; omega) ?_; intro v' w4 g1 g2 g3; obtain ⟨a', c', rfl⟩ := row_str5 g1)
            have hA := free_added (exx := fun k => ex k ∨ X k) HXl.out (Hstep.out w2 hB2).2.1 (Hstep.out w2 hB2).1 (Hstep.out w2 hB2).2.2 hD3 hK3 g1 g2 g3
            have HA := Lib.hid hA
            clear hA g1 g2 g3
            go_roundw
            case rel =>
              refine ⟨j + 1, d2, out ++ [s], a', c', by omega, by go_num, by simp, by simp; omega, HA.out.1, HA.out.2.1, HA.out.2.2, ?_⟩
              rw [HF2.out, if_neg (by simp)]
              simp
            case measure => simp [intOf]; omega
          · have hzb : (er != 0) = true := by simpa using hz
            have Hz := Lib.hid hz
            clear hz
            go_wp2_with first
              | (go_at_call 104; refine HN.out.mono ?_; rintro e w2 ⟨nz, he, hnz, hnum, hB2⟩; obtain ⟨e1, e2⟩ := hnum _ _ Hpn.out; rw [Hpn.out, e1, e2] at he; obtain rfl := he; simp only [Option.isSome_some]; clear e1; have d0 := cells5 (Hstep.out w2 hB2).2.1.blk; obtain ⟨d0, d1, _⟩ := d0; clear hnum)
              | (go_at_call 94; refine (HRm.out w2 hB2).mono ?_; rintro e w3 ⟨rfl, hD3, hK3⟩)
            have hA := free_stop (exx := fun k => ex k ∨ X k) (Hstep.out w2 hB2).2.1 (Hstep.out w2 hB2).1 (Hstep.out w2 hB2).2.2 hD3 hK3
            have HA := Lib.hid hA
            clear hA
            go_ret2
            rw [HFe.out, HF2.out, if_pos Hz.out]
            refine ⟨a, c, by simp, by simpa using ownsRow_from (HA.out.1) Hfin.out, ⟨mk, mh, S, g, by simpa using HA.out.2.1.mono (fun k hk => hk.imp Or.inl id)⟩, (HK1.out.trans (HA.out.2.2.mono (fun _ h => Or.inl h)))⟩
      · have hsf : (s.toList == [105, 46, 110, 101, 119]) = false := by
          have := strEq s freshI
          rw [decide_eq_false h1, show freshI.toList = [105, 46, 110, 101, 119] by rw [ByteArray.toList_eq]; rfl] at this
          exact this
        obtain ⟨gh, hgm, hgl⟩ := Hv.out.held.look
        have hky := keyOf_int_mk Tryz.underlying3 (q := .i64) (a := (nn : Int)) (by simp [Lit.wf, IntKind.min, IntKind.max, IntKind.signed, IntKind.bits]; omega)
        by_cases hin : nn ∈ st.held
        · have hF2 := HF.out
          rw [if_neg (by rw [ho]; simp [hin])] at hF2
          have hlk := hgl nn
          rw [if_pos hin] at hlk
          have HF2 := Lib.hid hF2
          have HN := Lib.hid hN
          have Hlk := Lib.hid hlk
          have Hpn := Lib.hid hn
          clear hF2 hN h1 ho HF hn hin hgl hlk
          go_wp2_with first
            | (go_at_call 104; refine HN.out.mono ?_; rintro e w2 ⟨nz, he, hnz, hnum, hB2⟩; obtain ⟨e1, e2⟩ := hnum _ _ Hpn.out; rw [Hpn.out, e1, e2] at he; obtain rfl := he; simp only [Option.isSome_some]; have hgm2 := hgm.upd (Upd.ofBelow (fp := noFp) hB2) (fun h => h); clear hnum e1)
            | (at_lookup; refine wpList_map_lookup rfl (.tmp 54) (.tmp 55) 57 3 3 rfl Tryz.underlying57 keyedI mh _ gh hgm2 rfl (.int .i64 nn) rfl _ hky (.int .i64 0) zero_int5 _ Hlk.out ?_)
          have h3 := Hstep.out w2 hB2
          have H3 := Lib.hid h3
          clear h3
          go_roundw
          case rel => exact ⟨j + 1, dj, out, a, c, by omega, by go_num, rfl, by omega, H3.out.1, H3.out.2.1, H3.out.2.2, HF2.out⟩
          case measure => simp [intOf]; omega
        · have hF2 := HF.out
          rw [if_pos (by rw [ho]; simpa using hin)] at hF2
          have hlk := hgl nn
          rw [if_neg hin] at hlk
          have Hlk := Lib.hid hlk
          obtain ⟨er, her⟩ : ∃ er, dj.removeErr s = er := ⟨_, rfl⟩
          obtain ⟨d2, hd2⟩ : ∃ d2, dj.remove s = d2 := ⟨_, rfl⟩
          rw [her, hd2] at hF2
          have hRm := fun w2 (hB2 : Below wr.heap.size wr w2) => Remove_at s (Hstep.out w2 hB2).2.1.disk (Nat.le_trans hsz (by decide))
          rw [her, hd2] at hRm
          have HRm := Lib.hid hRm
          have HF2 := Lib.hid hF2
          have HN := Lib.hid hN
          have Hpn := Lib.hid hn
          clear hRm hF2 her hd2 hN h1 ho HF hn hin hgl hlk
          by_cases hz : er = 0
          · subst hz
            go_wp2_with first
              | (go_at_call 104; refine HN.out.mono ?_; rintro e w2 ⟨nz, he, hnz, hnum, hB2⟩; obtain ⟨e1, e2⟩ := hnum _ _ Hpn.out; rw [Hpn.out, e1, e2] at he; obtain rfl := he; simp only [Option.isSome_some]; clear e1; have hgm2 := hgm.upd (Upd.ofBelow (fp := noFp) hB2) (fun h => h); have d0 := cells5 (Hstep.out w2 hB2).2.1.blk; obtain ⟨d0, d1, _⟩ := d0; clear hnum)
              | (at_lookup; refine wpList_map_lookup rfl (.tmp 54) (.tmp 55) 57 3 3 rfl Tryz.underlying57 keyedI mh _ gh hgm2 rfl (.int .i64 nn) rfl _ hky (.int .i64 0) zero_int5 _ Hlk.out ?_)
              | (go_at_call 94; refine (HRm.out w2 hB2).mono ?_; rintro e w3 ⟨rfl, hD3, hK3⟩)
              | (at_builtin; refine append_str5 rfl (.tmp 70) (.tmp 72) rfl (.slice a out.length c) (.slice (some ⟨w3.heap.size, 0, none⟩) 1 1) out [s] (out ++ [s]) out.length rfl rfl rfl (ownsRow_base0 (((hK3.row (Hstep.out w2 hB2).1 (fun b hb => Or.inl (Or.inr hb)))) |> fun x => (Upd.ofBelow (fp := noFp) ((Below.refl _ _).alloc (Nat.le_refl _) _)).row x (fun _ _ h => h))) rfl (Rd_new _ _ _ _ (sCells [s]) _ _ rfl rfl) (by simp; omega) ?_; intro v' w4 g1 g2 g3; obtain ⟨a', c', rfl⟩ := row_str5 g1)
            have hA := free_added (exx := fun k => ex k ∨ X k) HXl.out (Hstep.out w2 hB2).2.1 (Hstep.out w2 hB2).1 (Hstep.out w2 hB2).2.2 hD3 hK3 g1 g2 g3
            have HA := Lib.hid hA
            clear hA g1 g2 g3
            go_roundw
            case rel =>
              refine ⟨j + 1, d2, out ++ [s], a', c', by omega, by go_num, by simp, by simp; omega, HA.out.1, HA.out.2.1, HA.out.2.2, ?_⟩
              rw [HF2.out, if_neg (by simp)]
              simp
            case measure => simp [intOf]; omega
          · have hzb : (er != 0) = true := by simpa using hz
            have Hz := Lib.hid hz
            clear hz
            go_wp2_with first
              | (go_at_call 104; refine HN.out.mono ?_; rintro e w2 ⟨nz, he, hnz, hnum, hB2⟩; obtain ⟨e1, e2⟩ := hnum _ _ Hpn.out; rw [Hpn.out, e1, e2] at he; obtain rfl := he; simp only [Option.isSome_some]; clear e1; have hgm2 := hgm.upd (Upd.ofBelow (fp := noFp) hB2) (fun h => h); have d0 := cells5 (Hstep.out w2 hB2).2.1.blk; obtain ⟨d0, d1, _⟩ := d0; clear hnum)
              | (at_lookup; refine wpList_map_lookup rfl (.tmp 54) (.tmp 55) 57 3 3 rfl Tryz.underlying57 keyedI mh _ gh hgm2 rfl (.int .i64 nn) rfl _ hky (.int .i64 0) zero_int5 _ Hlk.out ?_)
              | (go_at_call 94; refine (HRm.out w2 hB2).mono ?_; rintro e w3 ⟨rfl, hD3, hK3⟩)
            have hA := free_stop (exx := fun k => ex k ∨ X k) (Hstep.out w2 hB2).2.1 (Hstep.out w2 hB2).1 (Hstep.out w2 hB2).2.2 hD3 hK3
            have HA := Lib.hid hA
            clear hA
            go_ret2
            rw [HFe.out, HF2.out, if_pos Hz.out]
            refine ⟨a, c, by simp, by simpa using ownsRow_from (HA.out.1) Hfin.out, ⟨mk, mh, S, g, by simpa using HA.out.2.1.mono (fun k hk => hk.imp Or.inl id)⟩, (HK1.out.trans (HA.out.2.2.mono (fun _ h => Or.inl h)))⟩
    · have hend : F = (dj, out, 0) := by
        rw [hF, List.drop_of_length_le (by rw [Hn.out]; omega)]
        simp [pFreeL]
      have hji : ¬ (j : Int) < (n : Int) := by omega
      have Hend := Lib.hid hend
      clear hF hend
      go_wp2
      go_ret2
      rw [HFe.out, Hend.out]
      exact ⟨a, c, rfl, ownsRow_from Hrow.out Hfin.out, ⟨mk, mh, S, g, Hv.out.mono (fun k hk => hk.imp Or.inl id)⟩, HKw.out⟩
end
end Go.Proofs.YtbepcjajbcecnaaGreatDoor
