/-
  The walk of DiskFails.
-/
import Derived.Outline
import Derived.Deep.OwnRows
import Derived.Deep.RegionHeld3
import Derived.BigQuiet
import Derived.Test.YtlljlkeknklplaaTwo
import Derived.Test.YtlljlkeknklplaaOpen1
import Derived.Test.YtlljlkeknklplaaAwake
namespace Go.Proofs.Ytlljlkeknklplaa
open Go.RowKit Go.Maps Go.MapKept

theorem bound_calm {d : ADisk} (h : Calm d) (n : Int) : (d.bound n).down = false := h.down

set_option maxRecDepth 100000 in
set_option maxHeartbeats 8000000 in
theorem fails_walk (w : World) (room : Int) (vl : Value) (cs : List ACall) (steps : Int) (hr0 : 0 ≤ room) (hr1 : room ≤ 65535) (hcs : CallsAt w vl cs) (hs0 : 0 ≤ steps) (hs1 : steps ≤ 255) :
    Calls Try.prog 7 #[.int .u16 room, vl, .int .u8 steps] w fun e w' => e = .returned (.bool true) ∧ Below w.heap.size w w' := by
  obtain ⟨a, c, rfl⟩ := SliceOf.shape hcs
  have hcl := SliceOf.len_le hcs
  simp only [maxLen] at hcl
  have hm0 : 0 ≤ room % 2001 := by omega
  have hm1 : room % 2001 < 2001 := by omega
  have hn0 : 0 ≤ steps % 31 := by omega
  have hn1 : steps % 31 < 31 := by omega
  obtain ⟨ex, hex⟩ : ∃ ex : Nat → Prop, ex = fun k => k < w.heap.size := ⟨_, rfl⟩
  have Hex := Lib.hid hex
  have hx0 : ∀ k, ex k → k < w.heap.size := fun k hk => by rw [hex] at hk; exact hk
  clear hex
  have hxx : ∀ k, k < w.heap.size → ex k := fun k hk => by rw [Hex.out]; exact hk
  go_enter Try.func7, Try.ntmps7
  go_wp2_with fail
  refine (New_at (ex := ex) (room % 2001) hm0 (by omega) hx0).mono ?_
  generalize w.heap.size + 1 = pa
  generalize hma : w.heap.size = ma
  rintro e w0 ⟨rfl, h0, kk0⟩
  obtain ⟨ex1, hx1, hx1l, hx1t⟩ := TwoAt.ofOne h0
  dsimp only
  go_wp2_with fail
  refine (New_at (ex := ex1) (room % 2001) hm0 (by omega) hx1l).mono ?_
  generalize w0.heap.size + 1 = pb
  generalize w0.heap.size = mb
  rintro e w1 ⟨rfl, h1, kk1⟩
  have hT := hx1t _ _ _ _ h1 kk1
  have hK1 := kk0.trans (kk1.mono hx1)
  clear h0 kk0 hx1 hx1l hx1t h1 kk1 
  obtain ⟨exa, hxa, hDa, hxat⟩ := hT.left
  dsimp only
  go_wp2_with fail
  refine (Arm_at (steps % 31) hDa (by omega) (by omega)).mono ?_
  rintro e w2 ⟨rfl, hDa2, hKa2⟩
  have hT2 := hxat _ _ hDa2 hKa2
  have hK2 := hK1.trans (hKa2.mono hxa)
  clear hDa hDa2 hKa2 hxat hxa hT hK1
  have hda : ((⟨room % 2001, -1, false, []⟩ : ADisk).arm (steps % 31)) = (⟨room % 2001, -1, false, []⟩ : ADisk).bound (steps % 31) := by simp [ADisk.arm, ADisk.bound]; omega
  rw [hda] at hT2
  clear hda
  go_wp2_with fail
  go_loopw [11, 12] (fun l i wr => ∃ (k : Nat) (n : Int) (da db : ADisk), k ≤ cs.length ∧ k ≤ 50 ∧ l = .int .i64 n ∧ i = .int .i64 k ∧ 0 ≤ n ∧ n ≤ 30 ∧ TwoAt ex wr pa ma da pb mb db ∧ Keep ex w wr ∧ Calm db ∧ (da = db.bound n ∨ da.down = true)) (fun _ i _ => cs.length - (intOf i).toNat)
  case atStart => exact ⟨0, _, _, _, by omega, by omega, rfl, rfl, hn0, by omega, hT2, hK2, ⟨rfl, rfl⟩, Or.inl rfl⟩
  case round =>
    obtain ⟨k, n, da, db, hk, hk50, rfl, rfl, hnn0, hnn1, hT, hK, hcalm, hst⟩ := hrel
    clear hT2 hK2
    have hbr : Below w.heap.size w wr := hK.below hxx
    by_cases hlt : k < cs.length
    · by_cases h50 : k < 50
      · obtain ⟨b, off, rfl, hbW, hok, c0, c1, c2, c3, c4, c5⟩ := hcs.at hbr k hlt
        have hexb : ex b := hxx _ hbW
        obtain ⟨cc, hcc⟩ : ∃ cc, cs[k] = cc := ⟨_, rfl⟩
        rw [hcc] at hok c0 c1 c2 c3 c4 c5
        have Hcc := Lib.hid hcc
        clear hcc
        have hw0 := hok.what0
        have hw1 := hok.what1
        cases hfit : fitsB cc with
        | false =>
          go_wp2_with (go_at_call 20; refine (fits_any _ cc hok).mono ?_; rw [hfit]; rintro e w1 ⟨rfl, hb1⟩)
          go_roundw
          case rel => exact ⟨k + 1, n, da, db, by omega, by omega, by go_num, by go_num, hnn0, hnn1, hT.below hb1, hK.trans (Keep.ofBelow hb1 (fun k hk => hT.lt hk)), hcalm, hst⟩
          case measure => simp [intOf]; omega
        | true =>
          have hlb : cc.b.length ≤ 150 := by
            simp only [fitsB, Bool.and_eq_true, decide_eq_true_eq] at hfit
            exact hfit.1.2
          go_wp2_with fail
          refine (fits_any _ cc hok).mono ?_
          rw [hfit]
          rintro e w1 ⟨rfl, hb1⟩
          dsimp only
          have e0 := (hb1.cell (p := ⟨_, _, none⟩) (cell_lt c0)).trans c0
          have e1 := (hb1.cell (p := ⟨_, _, none⟩) (cell_lt c1)).trans c1
          have e2 := (hb1.cell (p := ⟨_, _, none⟩) (cell_lt c2)).trans c2
          have e3 := (hb1.cell (p := ⟨_, _, none⟩) (cell_lt c3)).trans c3
          have e4 := (hb1.cell (p := ⟨_, _, none⟩) (cell_lt c4)).trans c4
          have e5 := (hb1.cell (p := ⟨_, _, none⟩) (cell_lt c5)).trans c5
          have hok1 := hok.below hb1
          have hT1 := hT.below hb1
          have hK1 := hK.trans (Keep.ofBelow hb1 (fun k hk => hT.lt hk))
          clear hT hK c0 c1 c2 c3 c4 c5 hbr
          rcases hst with rfl | hdn
          · obtain ⟨exa, hxa, hDa, hxat⟩ := hT1.left
            obtain ⟨exb, hxb, hDb, hxbt⟩ := hT1.right
            have hdn := bound_calm hcalm n
            go_wp2_with fail
            refine (Down_at hDa).mono ?_
            rw [hdn]
            rintro e w2 ⟨rfl, rfl⟩
            dsimp only
            go_wp2_with fail
            refine (taken_at hDb).mono ?_
            rintro e w2 ⟨vn, vb, vf, rfl, hsh, hb2⟩
            obtain ⟨an, cn, rfl, _⟩ := row_slice (ownsRow_base0 hsh.n)
            obtain ⟨ab, cb, rfl, _⟩ := row_slice (ownsRow_base0 hsh.b)
            obtain ⟨af, cf, rfl, _⟩ := row_slice (ownsRow_base0 hsh.f)
            obtain ⟨l1, l2, l3⟩ := shot_lens db
            rw [l1, l2, l3] at hsh
            have hb3 : Below w1.heap.size w1 (w2.alloc (.cells #[.slice an db.fs.length cn, .slice ab db.fs.length cb, .slice af db.fs.length cf] 76)) := hb2.alloc hb2.size _
            have hsh3 := hsh.keep (Keep.ofBelow ((Below.refl _ _).alloc (Nat.le_refl _) (.cells #[.slice an db.fs.length cn, .slice ab db.fs.length cb, .slice af db.fs.length cf] 76)) (ex := fun k => k < w2.heap.size) (fun k h => h)) (fun k _ h => h)
            have hB3 := alloc_at w2 (.cells #[.slice an db.fs.length cn, .slice ab db.fs.length cb, .slice af db.fs.length cf] 76)
            have hs3 : (w2.alloc (.cells #[.slice an db.fs.length cn, .slice ab db.fs.length cb, .slice af db.fs.length cf] 76)).heap.size = w2.heap.size + 1 := by simp
            have hs2 := hb2.size
            obtain ⟨w3, hw3⟩ : ∃ w3, w2.alloc (.cells #[.slice an db.fs.length cn, .slice ab db.fs.length cb, .slice af db.fs.length cf] 76) = w3 := ⟨_, rfl⟩
            rw [hw3] at hb3 hsh3 hB3 hs3
            have f0 := (hb3.cell (p := ⟨_, _, none⟩) (cell_lt e0)).trans e0
            have f1 := (hb3.cell (p := ⟨_, _, none⟩) (cell_lt e1)).trans e1
            have f2 := (hb3.cell (p := ⟨_, _, none⟩) (cell_lt e2)).trans e2
            have f3 := (hb3.cell (p := ⟨_, _, none⟩) (cell_lt e3)).trans e3
            have f4 := (hb3.cell (p := ⟨_, _, none⟩) (cell_lt e4)).trans e4
            have f5 := (hb3.cell (p := ⟨_, _, none⟩) (cell_lt e5)).trans e5
            have hok3 := hok1.below hb3
            obtain ⟨ex2, hex2⟩ : ∃ ex2 : Nat → Prop, ex2 = fun k => ex k ∨ w1.heap.size ≤ k ∧ k < w3.heap.size := ⟨_, rfl⟩
            have hT3 : TwoAt ex2 w3 pa ma (db.bound n) pb mb db := hT1.more hb3 (fun k hk => by rw [hex2] at hk; exact hk)
            have hx2 : ∀ k, ex k → ex2 k := fun k hk => by rw [hex2]; exact Or.inl hk
            have hx2n : ∀ k, w1.heap.size ≤ k → k < w3.heap.size → ex2 k := fun k h1 h2 => by rw [hex2]; exact Or.inr ⟨h1, h2⟩
            have hK3 := hK1.trans (Keep.ofBelow hb3 (fun k hk => hT1.lt hk))
            obtain ⟨exb3, hxb3, hDb3, hxbt3⟩ := hT3.right
            have Hw3 := Lib.hid hw3
            clear e0 e1 e2 e3 e4 e5 hex2 hw3 hsh hDa hxat hxbt hxa hxb hok1
            rw [← Hw3.out] at f0 f1 f2 f3 f4 f5
            dsimp only
            go_wp2_with fail
            rw [Hw3.out]
            rw [Hw3.out] at f0 f1 f2 f3 f4 f5
            refine (does_at cc hDb3 hok3 (by omega)).mono ?_
            rintro e w4 ⟨rfl, hDb4, hKb4⟩
            have hT4 := hxbt3 _ _ hDb4 hKb4
            have hK34 := hKb4.mono hxb3
            obtain ⟨exa4, hxa4, hDa4, hxat4⟩ := hT4.left
            have hbr4 : Below w.heap.size w w4 := (hK3.trans (hK34.mono hx2)).below hxx
            have hK4 := hK3.trans (hK34.mono hx2)
            clear f0 f1 f2 f3 f4 f5
            obtain ⟨b', off', hab, _, hok4, e0, e1, e2, e3, e4, e5⟩ := hcs.at hbr4 k hlt
            cases hab
            rw [Hcc.out] at hok4 e0 e1 e2 e3 e4 e5
            have hcalm4 := (hcalm.does cc).1
            have hdc := does_calm hcalm cc n hnn0
            obtain ⟨x, hx⟩ : ∃ x, db.doesErr cc = x := ⟨_, rfl⟩
            obtain ⟨db', hdb'⟩ : ∃ db', db.does cc = db' := ⟨_, rfl⟩
            rw [hx, hdb'] at hdc
            rw [hdb'] at hT4 hcalm4 hxat4
            rw [hx]
            clear hx hdb'
            rcases hdc with ⟨r1, r2, r3, r4⟩ | ⟨r1, r2, r3, r4⟩ | ⟨r1, r2, r3, r4⟩
            · subst r2
              have q1 : (x != 0) = true := by simpa using r1
              have q2 : (x == 0) = false := by simpa using r1
              have q3 : (x != x) = false := by simp
              dsimp only
              go_wp2_with fail
              refine (does_at cc hDa4 hok4 (by omega)).mono ?_
              rw [r3, r4]
              rintro e w5 ⟨rfl, hDa5, hKa5⟩
              have hT5 := hxat4 _ _ hDa5 hKa5
              dsimp only
              go_wp2_with fail
              refine (Down_at hDa5).mono ?_
              rw [bound_calm hcalm4 n]
              rintro e w6 ⟨rfl, rfl⟩
              dsimp only
              go_wp2_with fail
              refine (taken_at hDa5).mono ?_
              rintro e w6 ⟨va, va2, va3, rfl, hsa, hb6⟩
              obtain ⟨exb6, hxb6, hDb6, _⟩ := (hT5.below hb6).right
              dsimp only
              go_wp2_with fail
              refine (taken_at hDb6).mono ?_
              rintro e w7 ⟨vc, vc2, vc3, rfl, hsc, hb7⟩
              dsimp only
              go_wp2_with fail
              refine (same_any _ _ _ _ _ _ _ (db'.bound n).shot db'.shot (hsa.at.below hb7) hsc.at).mono ?_
              rw [bound_shot, decide_eq_true (rfl : db'.shot = db'.shot)]
              rintro e w8 ⟨rfl, hb8⟩
              have hb58 : Below w5.heap.size w5 w8 := (hb6.trans (hb7.mono hb6.size)).trans (hb8.mono (Nat.le_trans hb6.size hb7.size))
              dsimp only
              go_wp2
              go_roundw
              case rel => exact ⟨k + 1, n, db'.bound n, db', by omega, by omega, by go_num, by go_num, by omega, by omega, (hT5.below hb58).mono hx2, (hK4.trans ((hKa5.mono hxa4).mono hx2)).trans (Keep.ofBelow hb58 (fun k hk => hT5.lt (hx2 _ hk))), hcalm4, Or.inl rfl⟩
              case measure => simp [intOf]; omega
            · subst r1
              dsimp only
              go_wp2_with fail
              refine (does_at cc hDa4 hok4 (by omega)).mono ?_
              rw [r3, r4]
              rintro e w5 ⟨rfl, hDa5, hKa5⟩
              have hT5 := hxat4 _ _ hDa5 hKa5
              dsimp only
              go_wp2_with fail
              refine (Down_at hDa5).mono ?_
              rw [bound_calm hcalm4 (n - 1)]
              rintro e w6 ⟨rfl, rfl⟩
              dsimp only
              go_wp2_with fail
              refine (taken_at hDa5).mono ?_
              rintro e w6 ⟨va, va2, va3, rfl, hsa, hb6⟩
              obtain ⟨exb6, hxb6, hDb6, _⟩ := (hT5.below hb6).right
              dsimp only
              go_wp2_with fail
              refine (taken_at hDb6).mono ?_
              rintro e w7 ⟨vc, vc2, vc3, rfl, hsc, hb7⟩
              dsimp only
              go_wp2_with fail
              refine (same_any _ _ _ _ _ _ _ (db'.bound (n - 1)).shot db'.shot (hsa.at.below hb7) hsc.at).mono ?_
              rw [bound_shot, decide_eq_true (rfl : db'.shot = db'.shot)]
              rintro e w8 ⟨rfl, hb8⟩
              have hb58 : Below w5.heap.size w5 w8 := (hb6.trans (hb7.mono hb6.size)).trans (hb8.mono (Nat.le_trans hb6.size hb7.size))
              dsimp only
              go_wp2
              go_roundw
              case rel => exact ⟨k + 1, (n - 1), db'.bound (n - 1), db', by omega, by omega, by go_num, by go_num, by omega, by omega, (hT5.below hb58).mono hx2, (hK4.trans ((hKa5.mono hxa4).mono hx2)).trans (Keep.ofBelow hb58 (fun k hk => hT5.lt (hx2 _ hk))), hcalm4, Or.inl rfl⟩
              case measure => simp [intOf]; omega
            · subst r1 r2
              go_wp2_with fail
              refine (does_at cc hDa4 hok4 (by omega)).mono ?_
              rw [r3, r4]
              rintro e w5 ⟨rfl, hDa5, hKa5⟩
              have hT5 := hxat4 _ _ hDa5 hKa5
              have hK35 := hK34.trans (hKa5.mono hxa4)
              have hsh5 := hsh3.keep hK35 hx2n
              have hB5 := (hK35.block _ (hx2n w2.heap.size hs2 (by omega))).trans hB3
              have hK5 := hK3.trans (hK35.mono hx2)
              obtain ⟨dn, hdn2⟩ : ∃ dn, (db.bound 0).fail = dn := ⟨_, rfl⟩
              have hd1 : dn.down = true := by rw [← hdn2]; rfl
              have hd2 : dn.names = db.names := by rw [← hdn2]; rfl
              have hd3 : ∀ s, afile dn s = afile db s := fun s => by rw [← hdn2]; rfl
              rw [hdn2] at hDa5 hT5
              clear hdn2 r3 r4
              have hnl : db.names.length = db.fs.length := by simp [ADisk.names]
              have hnm : db.names.length ≤ maxLen := by have := hDb.wf.count; simp only [maxLen]; omega
              have hup := hcalm.down
              have hcnt : db.fs.length ≤ 200 := hDb.wf.count
              have Hnl := Lib.hid hnl
              clear hnl
              obtain ⟨q0, q1, q2, _⟩ := cells3 hB5
              have hshd : Rd w5.drew (.slice an db.fs.length cn) (sCells db.names) := (hsh5.at.below ((Below.refl w5.heap.size w5).drew)).n
              have hDd := hDa5.drew
              have HTX := Lib.hid hT1
              clear e0 e1 e2 e3 e4 e5 hB3 hT1 hdn hT3 hxbt3 hDa4 hT4 hxat4 hok4 hDb4 hDb3 hok3
              dsimp only
              go_wp2_with fail
              go_region_held3 (fun w' => w'.cell? ⟨w2.heap.size, 0, none⟩ = some (.slice an db.fs.length cn)) (first | exact q0 | exact S6 | exact S7 | go_keep)
                (first
                  | (go_at_call 39; refine (Down_at hDd).mono ?_; rw [hd1]; rintro e w6 ⟨rfl, rfl⟩)
                  | (go_at_call 16; refine (List_at hDd).mono ?_; rw [hd2]; rintro e w6 ⟨la, lc, rfl, hrow, _, hb6⟩; have S6 : w6.cell? ⟨w2.heap.size, 0, none⟩ = some (.slice an db.fs.length cn) := (hb6.cell (p := ⟨w2.heap.size, 0, none⟩) (blk_lt hB5)).trans q0; have hr6 : Rd w6 (.slice la db.names.length lc) (sCells db.names) := Rd.ofOwns hrow; have hn6 : Rd w6 (.slice an db.fs.length cn) (sCells db.names) := hshd.below hb6)
                  | (go_at_call 45; refine (SameTexts_any _ _ _ db.names db.names hr6 hn6 hnm hnm).mono ?_; rw [decide_eq_true (rfl : db.names = db.names)]; rintro e w7 ⟨rfl, hb7⟩; have S7 : w7.cell? ⟨w2.heap.size, 0, none⟩ = some (.slice an db.fs.length cn) := (hb7.cell (p := ⟨w2.heap.size, 0, none⟩) (cell_lt S6)).trans S6))
              have hb57 : Below w5.heap.size w5 w7 := (((Below.refl w5.heap.size w5).drew).trans hb6).trans (hb7.mono hb6.size)
              clear hrow hr6 hn6 S6 S7 hshd hb6 hb7 hDd q0 q1 q2 hnm
              have hB7 := (hb57.block _ (blk_lt hB5)).trans hB5
              obtain ⟨q0, q1, q2, _⟩ := cells3 hB7
              go_wp2_with fail
              go_loopw [99] (fun i wr => ∃ j : Nat, j ≤ db.fs.length ∧ i = .int .i64 j ∧ Below w5.heap.size w5 wr) (fun i _ => db.fs.length - (intOf i).toNat)
              case atStart => exact ⟨0, by omega, rfl, hb57⟩
              case round =>
                obtain ⟨j, hj, rfl, hbj⟩ := hrel
                have hBj := (hbj.block _ (blk_lt hB5)).trans hB5
                by_cases hjl : j < db.fs.length
                · have hshj := hsh5.at.below hbj
                  have hnl := Hnl.out
                  obtain ⟨bn, on, rfl, cn0⟩ := hshj.n.at j (by rw [sCells_length]; omega)
                  obtain ⟨bb, ob, rfl, cb0⟩ := hshj.b.at j (by rw [sCells_length]; omega)
                  obtain ⟨bf, of, rfl, cf0⟩ := hshj.f.at j (by rw [iCells_length]; omega)
                  obtain ⟨s1, s2⟩ := shot_file hup j (by omega) (by omega) (by omega)
                  have s0 : db.shot.names[j]'(by omega) = db.names[j]'(by omega) := rfl
                  simp only [sCells, iCells, List.getElem_map] at cn0 cb0 cf0
                  have hks : (db.names[j]'(by omega)).size ≤ 40 := hDb.wf.name_size (List.getElem_mem _)
                  rw [s0] at cn0
                  obtain ⟨s, hs⟩ : ∃ s, db.names[j]'(by omega) = s := ⟨_, rfl⟩
                  obtain ⟨t, ht⟩ : ∃ t, db.shot.bytes[j]'(by omega) = t := ⟨_, rfl⟩
                  obtain ⟨v, hv⟩ : ∃ v, db.shot.firm[j]'(by omega) = v := ⟨_, rfl⟩
                  rw [hs] at s1 s2 cn0 hks
                  rw [ht] at s1 cb0
                  rw [hv] at s2 cf0
                  have Q8 : Hid ((((afile dn s).len : Nat) : Int) = (t.size : Int)) := Lib.hid (by rw [hd3, s1])
                  have Q9 : Hid ((((afile dn s).firm.length : Nat) : Int) = v) := Lib.hid (by rw [hd3, s2])
                  have hDj := (hDa5.below hbj).drew
                  obtain ⟨p0, p1, p2, _⟩ := cells3 hBj
                  clear s0 s1 s2 hs ht hv hnl
                  go_wp2_with fail
                  go_region_held3 (fun w' => w'.cell? ⟨w2.heap.size, 1, none⟩ = some (.slice (some ⟨bb, ob, none⟩) db.fs.length cb) ∧ w'.cell? ⟨w2.heap.size, 2, none⟩ = some (.slice (some ⟨bf, of, none⟩) db.fs.length cf) ∧ w'.cell? ⟨bb, ob + j, none⟩ = some (.string t) ∧ w'.cell? ⟨bf, of + j, none⟩ = some (.int .i64 v))
                    (first | exact ⟨p1, p2, cb0, cf0⟩ | exact S8 | exact S9 | go_keep)
                    (first
                      | (go_at_call 36; refine (Size_at s hDj (by simp only [maxLen]; omega)).mono ?_; rw [Q8.out]; rintro e w8 ⟨rfl, hb8⟩; have S8 : w8.cell? ⟨w2.heap.size, 1, none⟩ = some (.slice (some ⟨bb, ob, none⟩) db.fs.length cb) ∧ w8.cell? ⟨w2.heap.size, 2, none⟩ = some (.slice (some ⟨bf, of, none⟩) db.fs.length cf) ∧ w8.cell? ⟨bb, ob + j, none⟩ = some (.string t) ∧ w8.cell? ⟨bf, of + j, none⟩ = some (.int .i64 v) := ⟨(hb8.cell (p := ⟨_, _, none⟩) (cell_lt p1)).trans p1, (hb8.cell (p := ⟨_, _, none⟩) (cell_lt p2)).trans p2, (hb8.cell (p := ⟨_, _, none⟩) (cell_lt cb0)).trans cb0, (hb8.cell (p := ⟨_, _, none⟩) (cell_lt cf0)).trans cf0⟩)
                      | (go_at_call 37; refine (Synced_at s (hDj.below hb8) (by simp only [maxLen]; omega)).mono ?_; rw [Q9.out]; rintro e w9 ⟨rfl, hb9⟩; have S9 : w9.cell? ⟨w2.heap.size, 1, none⟩ = some (.slice (some ⟨bb, ob, none⟩) db.fs.length cb) ∧ w9.cell? ⟨w2.heap.size, 2, none⟩ = some (.slice (some ⟨bf, of, none⟩) db.fs.length cf) ∧ w9.cell? ⟨bb, ob + j, none⟩ = some (.string t) ∧ w9.cell? ⟨bf, of + j, none⟩ = some (.int .i64 v) := ⟨(hb9.cell (p := ⟨_, _, none⟩) (cell_lt S8.1)).trans S8.1, (hb9.cell (p := ⟨_, _, none⟩) (cell_lt S8.2.1)).trans S8.2.1, (hb9.cell (p := ⟨_, _, none⟩) (cell_lt S8.2.2.1)).trans S8.2.2.1, (hb9.cell (p := ⟨_, _, none⟩) (cell_lt S8.2.2.2)).trans S8.2.2.2⟩))
                  go_wp2
                  go_roundw
                  case rel => exact ⟨j + 1, by omega, by go_num, ((hbj.drew).trans (hb8.mono hbj.size)).trans (hb9.mono (Nat.le_trans hbj.size hb8.size))⟩
                  case measure => simp [intOf]; omega
                · obtain rfl : j = db.fs.length := by omega
                  go_wp2
                  go_roundw
                  case rel => exact ⟨k + 1, 0, dn, db', by omega, by omega, by go_num, by go_num, by omega, by omega, (hT5.below hbj).mono hx2, hK5.trans (Keep.ofBelow hbj (fun k hk => hT5.lt (hx2 _ hk))), hcalm4, Or.inr hd1⟩
                  case measure => simp [intOf]; omega
          · obtain ⟨exa, hxa, hDa, hxat⟩ := hT1.left
            obtain ⟨hdo, hde⟩ := does_down hdn cc
            have hde := fun h => hde hw0 h
            by_cases h5 : cc.what ≤ 5
            · go_wp2_with fail
              refine (Down_at hDa).mono ?_
              rw [hdn]
              rintro e w2 ⟨rfl, rfl⟩
              dsimp only
              go_wp2_with fail
              refine (does_at cc hDa hok1 (by omega)).mono ?_
              rw [hdo, hde h5]
              rintro e w2 ⟨rfl, hDa2, hKa2⟩
              dsimp only
              go_wp2_with fail
              refine (Down_at hDa2).mono ?_
              rw [hdn]
              rintro e w3 ⟨rfl, rfl⟩
              dsimp only
              go_wp2
              go_roundw
              case rel => exact ⟨k + 1, n, da, db, by omega, by omega, by go_num, by go_num, hnn0, hnn1, hxat _ _ hDa2 hKa2, hK1.trans (hKa2.mono hxa), hcalm, Or.inr hdn⟩
              case measure => simp [intOf]; omega
            · go_wp2_with fail
              refine (Down_at hDa).mono ?_
              rw [hdn]
              rintro e w2 ⟨rfl, rfl⟩
              dsimp only
              go_wp2_with fail
              refine (Down_at hDa).mono ?_
              rw [hdn]
              rintro e w3 ⟨rfl, rfl⟩
              dsimp only
              go_wp2
              go_roundw
              case rel => exact ⟨k + 1, n, da, db, by omega, by omega, by go_num, by go_num, hnn0, hnn1, hT1, hK1, hcalm, Or.inr hdn⟩
              case measure => simp [intOf]; omega
      · go_wp2_with fail
        refine (awake_any _).mono ?_
        rintro e w7 ⟨rfl, hb7⟩
        go_wp2
        go_ret
        exact ⟨rfl, hbr.trans (hb7.mono hbr.size)⟩
    · go_wp2_with fail
      refine (awake_any _).mono ?_
      rintro e w7 ⟨rfl, hb7⟩
      go_wp2
      go_ret
      exact ⟨rfl, hbr.trans (hb7.mono hbr.size)⟩
/-- .. as the frame hands it. -/
theorem fails_law (w : World) (a0 : Int) (w0 : (Lit.int .u16 a0).wf = true) {v : Value} (b1 : List ACall) (r1 : CallsAt w v b1) (a2 : Int) (w2 : (Lit.int .u8 a2).wf = true) :
    Calls Try.prog 7 #[.int .u16 a0, v, .int .u8 a2] w fun e w' => e = .returned (.bool true) ∧ Below w.heap.size w w' := by
  have hb := bounds_u16 w0
  have hb2 := bounds_u8 w2
  exact fails_walk w a0 v b1 a2 (by omega) (by omega) r1 (by omega) (by omega)
end Go.Proofs.Ytlljlkeknklplaa
