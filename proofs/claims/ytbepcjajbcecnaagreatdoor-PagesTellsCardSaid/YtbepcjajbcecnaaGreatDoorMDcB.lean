/-
  The document's pages: commit.
-/
import Derived.Outline
import Derived.BigQuiet
import Derived.Deep.QuietTactic
import Derived.Test.YtbepcjajbcecnaaGreatDoorMRfB
import Derived.Test.YtbepcjajbcecnaaGreatDoorMRcA
import Derived.Test.YtbepcjajbcecnaaGreatDoorMDcA
import Derived.Test.YtbepcjajbcecnaaGreatDoorMPmG
namespace Go.Proofs.YtbepcjajbcecnaaGreatDoor
open Go.RowKit Go.Maps Go.MapKept
variable {X : Nat → Prop}
set_option linter.unusedSimpArgs false

def CommitPost (o : Option (List (ByteArray × ABlob))) (w : World) (e : Ending) (w' : World) : Prop :=
  Below w.heap.size w w' ∧ match o with
    | none => e = .returned (.tuple #[.slice none 0 0, .bool false])
    | some l => ∃ a n c, e = .returned (.tuple #[.slice a n c, .bool true]) ∧ DKeys w' a n c l
theorem CommitPost.bad {o : Option (List (ByteArray × ABlob))} {w w' : World} (h : o = none) (hB : Below w.heap.size w w') : CommitPost o w (.returned (.tuple #[.slice none 0 0, .bool false])) w' := by subst h; exact ⟨hB, rfl⟩
theorem CommitPost.good {o : Option (List (ByteArray × ABlob))} {w w' : World} {l : List (ByteArray × ABlob)} {a : Option Addr} {n c : Nat} (h : o = some l) (hB : Below w.heap.size w w') (hD : DKeys w' a n c l) : CommitPost o w (.returned (.tuple #[.slice a n c, .bool true])) w' := by subst h; exact ⟨hB, a, n, c, rfl, hD⟩

set_option maxRecDepth 100000 in
set_option maxHeartbeats 8000000 in
theorem r5commit_any (w : World) (a : Option Addr) (n c : Nat) (d : ADisk) (k : Nat) (h : RefAt X w a n c d) (hw : d.WF) (hk : k ≤ 9007199254740992) :
    Calls Tryz.prog 76 #[refVal a n c d, .int .i64 k] w (CommitPost (rCommit d k) w) := by
  obtain ⟨o, ho⟩ : ∃ o, rCommit d k = o := ⟨_, rfl⟩
  rw [ho]
  have hD := alloc_at w (.cells #[.int .i64 d.most, .slice a n c, .int .i64 d.left, .bool d.down] 74)
  have hbW : Below w.heap.size w (w.alloc (.cells #[.int .i64 d.most, .slice a n c, .int .i64 d.left, .bool d.down] 74)) := (Below.refl _ _).alloc (Nat.le_refl _) _
  by_cases h0 : k = 0
  · subst h0
    have Ho := Lib.hid (show o = some [] from ho.symm)
    clear ho
    unfold refVal
    go_enter Tryz.func76, Tryz.ntmps76
    go_wp2_with fail
    go_ret2
    exact CommitPost.good Ho.out hbW (DKeys.nil _ _)
  · obtain ⟨W, hW⟩ : ∃ W, w.alloc (.cells #[.int .i64 d.most, .slice a n c, .int .i64 d.left, .bool d.down] 74) = W := ⟨_, rfl⟩
    have hk0 : ((k : Int) == 0) = false := by simp; omega
    have hk0' : ¬ (k : Int) = 0 := by omega
    rw [hW] at hD hbW
    have HW := Lib.hid hW
    clear hW
    have hRW := h.below hbW
    have hI := r5Index_any W k hk
    have hRd := fun (w : World) (h : RefAt X w a n c d) => refRead_any w a n c d (iName k) h hw
    unfold refVal at hRd ⊢
    go_enter Tryz.func76, Tryz.ntmps76
    go_wp2_with fail
    rw [HW.out]
    have hRWd := hRW.below ((Below.refl W.heap.size W).drew)
    have hDd : W.drew.heap[w.heap.size]? = some (.cells #[.int .i64 d.most, .slice a n c, .int .i64 d.left, .bool d.down] 74) := hD
    have hI := r5Index_any W.drew k hk
    have hDl := blk_lt hDd
    obtain ⟨y0, y1, y2, y3, _⟩ := cells4 hDd
    go_region_held3 (fun w' => w'.cell? ⟨w.heap.size, 0, none⟩ = some (.int .i64 d.most) ∧ w'.cell? ⟨w.heap.size, 1, none⟩ = some (.slice a n c) ∧ w'.cell? ⟨w.heap.size, 2, none⟩ = some (.int .i64 d.left) ∧ w'.cell? ⟨w.heap.size, 3, none⟩ = some (.bool d.down))
      (first | exact ⟨y0, y1, y2, y3⟩ | exact S3 | go_keep)
      (first
        | (go_at_call 75; (with_reducible refine hI.mono ?_); rintro e w1 ⟨rfl, rfl⟩)
        | (go_at_call 74; (with_reducible refine (hRd _ hRWd).mono ?_); rintro e w2 ⟨a2, n2, c2, rfl, hr2, hb2, hcap2⟩; have S3 : w2.cell? ⟨w.heap.size, 0, none⟩ = some (.int .i64 d.most) ∧ w2.cell? ⟨w.heap.size, 1, none⟩ = some (.slice a n c) ∧ w2.cell? ⟨w.heap.size, 2, none⟩ = some (.int .i64 d.left) ∧ w2.cell? ⟨w.heap.size, 3, none⟩ = some (.bool d.down) := ⟨(hb2.cell (p := ⟨w.heap.size, 0, none⟩) hDl).trans y0, (hb2.cell (p := ⟨w.heap.size, 1, none⟩) hDl).trans y1, (hb2.cell (p := ⟨w.heap.size, 2, none⟩) hDl).trans y2, (hb2.cell (p := ⟨w.heap.size, 3, none⟩) hDl).trans y3⟩))
    have hB2 : Below w.heap.size w w2 := hbW.drew.trans (hb2.mono hbW.size)
    have HD2 := Lib.hid ((hb2.block _ hDl).trans hDd)
    clear hRWd hI hb2 y0 y1 y2 y3 hRW
    obtain ⟨fe, hfe⟩ : ∃ fe, findErr d (iName k) = fe := ⟨_, rfl⟩
    rw [hfe]
    by_cases he : fe = 0
    · subst he
      obtain ⟨b, hb⟩ : ∃ b, d.readBytes (iName k) = b := ⟨_, rfl⟩
      have hbl : b.length ≤ 16777216 := by rw [← hb]; exact readBytes_le hw _
      have ho2 : o = if (unsealL sumL b).1 ≠ 0 then none else rIdx d k b (unsealL sumL b).2 := by
        rw [← ho]; unfold rCommit; rw [if_neg h0, if_neg (by rw [hfe]; simp), hb]
      rw [hb] at hr2
      have hU := x1Unseal_any w2 _ b hr2 hcap2 (by omega)
      obtain ⟨er, inn, hun⟩ : ∃ er inn, unsealL sumL b = (er, inn) := ⟨_, _, rfl⟩
      have hil : inn.length ≤ b.length := by
        unfold unsealL at hun
        split at hun
        · cases hun; simp
        · split at hun
          · cases hun; simp
          · cases hun; simp
      unfold UnPost at hU
      rw [hun] at hU ho2
      simp only at hU ho2
      have Ho2 := Lib.hid ho2
      have Hr2 := Lib.hid (And.intro hr2 hcap2)
      obtain ⟨_, _, hv2⟩ := hr2.shape
      cases hv2
      rw [bcells_length] at Hr2 hU ⊢
      clear hr2 hcap2 ho2 ho hb hun hfe h0
      go_upto_region 7 with (go_at_call 113; refine hU.mono ?_; rintro e w3 ⟨a3, c3, rfl, hr3, hb3⟩)
      have hB3 : Below w.heap.size w w3 := hB2.trans (hb3.mono hB2.size)
      have HD3 := Lib.hid ((hb3.block _ (blk_lt HD2.out)).trans HD2.out)
      have Hr3 := Lib.hid (And.intro hr3 hb3)
      clear hr3 hb3 hU
      by_cases hb0 : er ≠ 0 ∨ inn.length < 4
      · have hoN : o = none := by
          rw [Ho2.out]
          by_cases h : er ≠ 0
          · rw [if_pos h]
          · rw [if_neg h]
            unfold rIdx
            rw [if_pos (by rcases hb0 with hb0 | hb0; exact absurd hb0 h; exact hb0)]
        have HoN := Lib.hid hoN
        have hI1 : (er != 0) = true ∨ ((er != 0) = false ∧ (inn.length : Int) < 4) := by
          by_cases h : er = 0
          · right
            refine ⟨by simp [h], ?_⟩
            rcases hb0 with hb0 | hb0
            · exact absurd h hb0
            · omega
          · left; simpa using h
        clear hb0 hoN
        rcases hI1 with hI1 | ⟨hI1, hI2⟩
        all_goals
          go_wp2_with fail
          go_ret2
          exact CommitPost.bad HoN.out hB3
      · obtain rfl : er = 0 := by
          by_cases h : er = 0
          · exact h
          · exact absurd (Or.inl h) hb0
        have h4 : ¬ inn.length < 4 := fun h => hb0 (Or.inr h)
        have h4I : ¬ (inn.length : Int) < 4 := by omega
        have Hx := Lib.hid (Ho2.out.trans (if_neg (by simp)))
        clear hb0 Ho2
        obtain ⟨_, _, hv3, hnc3, hcm3, _⟩ := row_slice (ownsRow_base0 Hr3.out.1)
        cases hv3
        have Hcap := Lib.hid (show CapOk (.slice a3 inn.length c3) from ⟨_, _, _, rfl, hnc3, hcm3⟩)
        have h4l : 4 ≤ inn.length := by omega
        obtain ⟨e1, x1, j1, hg1⟩ : ∃ er x y, gU (inn.drop 4) = (er, x, y) := ⟨_, _, _, rfl⟩
        have hG1 := x1GetUint_any w3 _ inn 4 (Rd.ofOwns Hr3.out.1) Hcap.out h4l (by omega)
        unfold GuPost guVal guNext guErr at hG1
        rw [hg1, show (((4 : Nat) : Nat) : Int) = 4 from rfl] at hG1
        simp only at hG1
        obtain ⟨p4, hp4⟩ : ∃ p4 : Nat, (if e1 = 0 then (4 : Int) + (j1 : Int) else 0) = (p4 : Int) := ⟨if e1 = 0 then 4 + j1 else 0, by split <;> simp⟩
        rw [hp4] at hG1
        have H4 := Lib.hid h4
        clear h4 hnc3 hcm3
        go_upto_region 10 with (go_at_call 114; refine hG1.mono ?_; rintro e w4 ⟨rfl, hb4⟩)
        have hB4 := hB3.trans (hb4.mono hB3.size)
        have HD4 := Lib.hid ((hb4.block _ (blk_lt HD3.out)).trans HD3.out)
        clear hG1
        by_cases he1 : e1 = 0
        · subst he1
          rw [if_pos rfl] at hp4
          obtain rfl : p4 = 4 + j1 := by omega
          have hj4 := gU_at h4l hg1
          obtain ⟨e2, nn, j2, hg2⟩ : ∃ er x y, gU (inn.drop (4 + j1)) = (er, x, y) := ⟨_, _, _, rfl⟩
          have hr4 : Rd w4 (.slice a3 inn.length c3) (bcells inn) := (Rd.ofOwns Hr3.out.1).below hb4
          have hG2 := x1GetUint_any w4 _ inn (4 + j1) hr4 Hcap.out hj4 (by omega)
          unfold GuPost guVal guNext guErr at hG2
          rw [hg2] at hG2
          simp only at hG2
          have hn64 := gU_lt hg2
          obtain ⟨p5, hp5⟩ : ∃ p5 : Nat, (if e2 = 0 then ((4 + j1 : Nat) : Int) + (j2 : Int) else 0) = (p5 : Int) := ⟨if e2 = 0 then 4 + j1 + j2 else 0, by split <;> simp⟩
          rw [hp5] at hG2
          have H4r := Lib.hid (And.intro hr4 hb4)
          clear hp4 hr4 hb4
          go_upto_region 13 with (go_at_call 114; refine hG2.mono ?_; rintro e w5 ⟨rfl, hb5⟩)
          have hB5 := hB4.trans (hb5.mono hB4.size)
          clear hG2
          by_cases hb2 : e2 ≠ 0 ∨ 4096 < nn
          · have HoN := Lib.hid (Hx.out.trans (rIdx_bad2 H4.out hg1 hg2 hb2))
            have hI1 : (e2 != 0) = true ∨ ((e2 != 0) = false ∧ (4096 : Int) < (nn : Int)) := by
              by_cases h : e2 = 0
              · right
                refine ⟨by simp [h], ?_⟩
                rcases hb2 with hb2 | hb2
                · exact absurd h hb2
                · omega
              · left; simpa using h
            clear hb2 hg2 hp5 hg1
            rcases hI1 with hI1 | ⟨hI1, hI2⟩
            all_goals
              go_wp2_with fail
              go_ret2
              exact CommitPost.bad HoN.out hB5
          · obtain rfl : e2 = 0 := by
              by_cases h : e2 = 0
              · exact h
              · exact absurd (Or.inl h) hb2
            have hn4 : nn ≤ 4096 := by
              by_cases h : nn ≤ 4096
              · exact h
              · exact absurd (Or.inr (by omega)) hb2
            have hnI : ¬ (4096 : Int) < (nn : Int) := by omega
            rw [if_pos rfl] at hp5
            obtain rfl : p5 = 4 + j1 + j2 := by omega
            have hj5 := gU_at hj4 hg2
            have Hso := Lib.hid (RSo.start hj5 hn4 (Hx.out.trans (rIdx_go H4.out hg1 hg2 hn4)))
            clear hb2 hp5 hg2 hg1 Hx
            have HD5 := Lib.hid ((hb5.block _ (blk_lt HD4.out)).trans HD4.out)
            have hr5 : Rd w5 (.slice a3 inn.length c3) (bcells inn) := H4r.out.1.below hb5
            have hb25 : Below w2.heap.size w2 w5 := Hr3.out.2.trans ((H4r.out.2.trans (hb5.mono H4r.out.2.size)).mono Hr3.out.2.size)
            have hrb5 : Rd w5 (.slice a2 b.length c2) (bcells b) := Hr2.out.1.below hb25
            have H5 := Lib.hid (And.intro hr5 (And.intro hrb5 hB5))
            clear hr5 hrb5 hb25 hb5 hB5 hB4 hB3 hB2 hD hDl hDd hbW hj4 hj5 h4l hn64
            go_wp2_with fail
            go_loopw [10, 12, 13, 14, 15, 16, 17, 18, 19, 20] (fun av lv iv _ _ _ _ _ _ _ wr => ∃ (at_ : Nat) (es : List AEnt) (ks : List DKey) (al : Option Addr) (cl : Nat), es.length ≤ nn ∧ av = .int .i64 at_ ∧ lv = .slice al es.length cl ∧ iv = .int .i64 es.length ∧
              wr.ownsRow w5.heap.size 140 4 (.slice al es.length cl) es.length (flatD ks) ∧ ks.map DKey.plain = blobsB d es ∧ (∀ x ∈ ks, x.ok w) ∧ Below w5.heap.size w5 wr ∧ RSo d inn b k o (nn - es.length) at_ es) (fun _ _ iv _ _ _ _ _ _ _ _ => nn - (intOf iv).toNat)
            case atStart => exact ⟨4 + j1 + j2, [], [], none, 0, by simp, rfl, rfl, rfl, World.ownsRow_nil _ _ _ _, rfl, by simp, Below.refl _ _, Hso.out⟩
            case round =>
              obtain ⟨at_, es, ks, al, cl, hle, rfl, rfl, rfl, hrow, hks, hok, hBr, hso⟩ := hrel
              obtain ⟨wq, rfl⟩ : ∃ x, x = wr := ⟨_, rfl⟩
              have HR := Lib.hid (And.intro hrow (And.intro hks (And.intro hok (And.intro hBr hso))))
              clear hrow hks hok hBr hso Hso
              by_cases hlt : es.length < nn
              · have hkl : es.length = ks.length := by
                  have := congrArg List.length HR.out.2.1
                  simpa [blobsB] using this.symm
                have hDK : DKeys wq al es.length cl (blobsB d es) := DKeys.of_row HR.out.1 hkl (by simp only [maxLen]; omega) (fun x hx => (HR.out.2.2.1 x hx).below (H5.out.2.2.trans (HR.out.2.2.2.1.mono H5.out.2.2.size))) HR.out.2.1.symm
                have hBw : Below w.heap.size w wq := H5.out.2.2.trans (HR.out.2.2.2.1.mono H5.out.2.2.size)
                have hrin : Rd wq (.slice a3 inn.length c3) (bcells inn) := H5.out.1.below HR.out.2.2.2.1
                obtain ⟨er, nm, j0, hgb⟩ : ∃ er nm j, gB (inn.drop at_) 60 = (er, nm, j) := ⟨_, _, _, rfl⟩
                have hG := x1GetBlob_any wq _ inn at_ 60 hrin Hcap.out HR.out.2.2.2.2.le (by omega) (by omega)
                unfold GbPost at hG
                rw [hgb, show ((60 : Nat) : Int) = 60 from rfl] at hG
                simp only at hG
                obtain ⟨p0, hp0⟩ : ∃ p0 : Nat, (if er = 0 then (at_ : Int) + (j0 : Int) else 0) = (p0 : Int) := ⟨if er = 0 then at_ + j0 else 0, by split <;> simp⟩
                rw [hp0] at hG
                obtain ⟨n1, hn1⟩ : ∃ n1, nn - es.length = n1 + 1 := ⟨nn - es.length - 1, by omega⟩
                have hso := HR.out.2.2.2.2
                rw [hn1] at hso
                have Hso := Lib.hid hso
                have Hrin := Lib.hid hrin
                have HDK := Lib.hid hDK
                have hltI : (es.length : Int) < (nn : Int) := by omega
                have Hkl := Lib.hid hkl
                clear hso hrin hDK hkl
                go_upto_region 20 with (go_at_call 115; refine hG.mono ?_; rintro e w7 ⟨a7, c7, rfl, hr7, hb7⟩)
                have hB7 : Below w.heap.size w w7 := hBw.trans (hb7.mono hBw.size)
                have H7 := Lib.hid (And.intro (Rd.ofOwns hr7) (And.intro hb7 hB7))
                have Hn7 := Lib.hid (show ∀ g, (Value.slice a7 nm.length c7).ownBlock = some g → wq.heap.size ≤ g from fun g hg => row_from hr7 hg)
                clear hG hr7 hb7
                obtain ⟨bq, hbq⟩ : ∃ bq : Bool, ((er != 0) || (decide (nm.length = 0) || !nextOk (lastN es) ⟨nm.toArray⟩)) = bq := ⟨_, rfl⟩
                go_cut [101] from 80 to 101 (fun bv wx => bv = .bool bq ∧ Below w7.heap.size w7 wx)
                case first =>
                  by_cases he : er = 0
                  · have hq1 : (er != 0) = false := by simp [he]
                    by_cases hnz : nm.length = 0
                    · have hq2 : ((nm.length : Int) == 0) = true := by simp [hnz]
                      have Hb := Lib.hid (show bq = true by rw [← hbq, hq1, decide_eq_true hnz]; rfl)
                      clear hbq hnz he
                      go_wp2_with fail
                      go_quiet (fail)
                      go_wp2_with fail
                      go_meet
                      case rel => exact ⟨by rw [Hb.out], below_drewN (Below.refl _ _) _⟩
                    · have hq2 : ((nm.length : Int) == 0) = false := by simpa using hnz
                      by_cases hes : es = []
                      · have Hb := Lib.hid (show bq = false by rw [← hbq, hq1, decide_eq_false hnz, hes]; rfl)
                        subst hes
                        clear hbq hnz he
                        go_wp2_with fail
                        go_quiet (fail)
                        go_wp2_with fail
                        go_meet
                        case rel => first | exact ⟨by rw [Hb.out], below_drewN (Below.refl _ _) _⟩ | ((repeat apply Exists.intro); exact ⟨⟨by rw [Hb.out], below_drewN (Below.refl _ _) _⟩, rfl⟩)
                      · obtain ⟨g, off, vb, hal, cl0, -⟩ := HDK.out.at (es.length - 1) (by unfold blobsB; rw [List.length_map]; have := List.length_pos_iff.2 hes; omega)
                        subst hal
                        have hl0 : 0 < es.length := List.length_pos_iff.2 hes
                        have hlp : decide ((0 : Int) < (es.length : Int)) = true := decide_eq_true (by omega)
                        obtain ⟨lst, hlst⟩ : ∃ l, es[es.length - 1]? = some l := ⟨_, List.getElem?_eq_getElem (by omega)⟩
                        have hnm : (blobsB d es)[es.length - 1]'(by unfold blobsB; rw [List.length_map]; omega) = (lst.name, blobB d lst) := by
                          have h1 : (blobsB d es)[es.length - 1]? = some (lst.name, blobB d lst) := by unfold blobsB; rw [List.getElem?_map, hlst]; rfl
                          exact (List.getElem?_eq_some_iff.1 h1).2
                        rw [hnm] at cl0
                        simp only at cl0
                        have cl7 := (H7.out.2.1.cell (p := ⟨g, off + (es.length - 1) * 4, none⟩) (cell_lt cl0)).trans cl0
                        have cl7d := fun m => ((below_drewN (Below.refl w7.heap.size w7) m).cell (p := ⟨g, off + (es.length - 1) * 4, none⟩) (cell_lt cl7)).trans cl7
                        have hlN : lastN es = some lst.name := by unfold lastN; rw [List.getLast?_eq_getElem?, hlst]; rfl
                        have kc := fun m => run_bytes_str (P := Tryz.prog) (H7.out.1.below (below_drewN (Below.refl w7.heap.size w7) m)) (src := 25) (dst := 9) (e := 5) Tryz.underlying25 Tryz.underlying5 Tryz.underlying9
                        have p1 : Op.bytesLess lst.name.toList nm = ltS lst.name ⟨nm.toArray⟩ := by rw [← bytesLess_ltS5, ByteArray.toList_eq ⟨nm.toArray⟩]
                        have Hb := Lib.hid (show bq = !ltS lst.name ⟨nm.toArray⟩ by rw [← hbq, hq1, decide_eq_false hnz, hlN]; rfl)
                        clear hbq hnz he hes hlst hnm cl0 hlN
                        cases hlt2 : ltS lst.name ⟨nm.toArray⟩ with
                        | true =>
                          rw [hlt2] at p1 Hb
                          clear hlt2
                          go_wp2_with fail
                          go_quiet (fail)
                          go_wp2_with fail
                          go_meet
                          case rel => first | exact ⟨by simp [Hb.out], below_drewN (Below.refl _ _) _⟩ | ((repeat apply Exists.intro); exact ⟨⟨by simp [Hb.out], below_drewN (Below.refl _ _) _⟩, rfl⟩)
                        | false =>
                          rw [hlt2] at p1 Hb
                          clear hlt2
                          go_wp2_with fail
                          go_quiet (fail)
                          go_wp2_with fail
                          go_meet
                          case rel => first | exact ⟨by simp [Hb.out], below_drewN (Below.refl _ _) _⟩ | ((repeat apply Exists.intro); exact ⟨⟨by simp [Hb.out], below_drewN (Below.refl _ _) _⟩, rfl⟩)
                  · have hq1 : (er != 0) = true := by simpa using he
                    have Hb := Lib.hid (show bq = true by rw [← hbq, hq1]; rfl)
                    clear hbq he
                    go_wp2_with fail
                    go_quiet (fail)
                    go_wp2_with fail
                    go_meet
                    case rel => exact ⟨by rw [Hb.out], below_drewN (Below.refl _ _) _⟩
                case rest =>
                  obtain ⟨rfl, hcb⟩ := hcut
                  obtain ⟨wb, rfl⟩ : ∃ x, x = wc := ⟨_, rfl⟩
                  have hBb : Below w.heap.size w wb := H7.out.2.2.trans (hcb.mono H7.out.2.2.size)
                  have Hcb := Lib.hid hcb
                  clear hcb
                  cases bq with
                  | true =>
                    have hoN : o = none := by
                      by_cases he : er = 0
                      · subst he
                        by_cases hnz : nm.length = 0
                        · exact Hso.out.bad (Or.inl (pEntA_empty hgb hnz))
                        · rw [show ((0 : Int) != 0) = false from rfl, decide_eq_false hnz] at hbq
                          simp only [Bool.false_or] at hbq
                          have hno : nextOk (lastN es) ⟨nm.toArray⟩ = false := by simpa using hbq
                          cases hp : pEntA inn at_ k with
                          | none => exact Hso.out.bad (Or.inl hp)
                          | some z =>
                            obtain ⟨x, at2⟩ := z
                            exact Hso.out.bad (Or.inr ⟨x, at2, hp, Or.inl (by rw [pEntA_name hgb hp]; exact hno)⟩)
                      · exact Hso.out.bad (Or.inl (pEntA_err hgb he))
                    have HoN := Lib.hid hoN
                    clear hbq hoN
                    go_wp2_with fail
                    go_ret2
                    exact CommitPost.bad HoN.out hBb
                  | false =>
                    obtain ⟨hbq1, hbq2⟩ := Bool.or_eq_false_iff.1 hbq
                    obtain ⟨hbq2, hbq3⟩ := Bool.or_eq_false_iff.1 hbq2
                    obtain rfl : er = 0 := by simpa using hbq1
                    have hnz : 0 < nm.length := by have := of_decide_eq_false hbq2; omega
                    have Hno := Lib.hid (show nextOk (lastN es) ⟨nm.toArray⟩ = true by simpa using hbq3)
                    rw [if_pos rfl] at hp0
                    obtain rfl : p0 = at_ + j0 := by omega
                    have hat0 : at_ + j0 ≤ inn.length := by have h1 := gB_drop hgb; rw [List.length_drop] at h1; have := Hso.out.le; omega
                    clear hbq hbq1 hbq2 hbq3 hp0
                    obtain ⟨e1, pp, k1, hu1⟩ : ∃ er x y, gU (inn.drop (at_ + j0)) = (er, x, y) := ⟨_, _, _, rfl⟩
                    have hrb1 : Rd wb (.slice a3 inn.length c3) (bcells inn) := (Hrin.out.below H7.out.2.1).below (Hcb.out)
                    have hG1 := x1GetUint_any wb _ inn (at_ + j0) hrb1 Hcap.out hat0 (by omega)
                    unfold GuPost guVal guNext guErr at hG1
                    rw [hu1] at hG1
                    simp only at hG1
                    have hpp := gU_lt hu1
                    obtain ⟨p1, hp1⟩ : ∃ p : Nat, (if e1 = 0 then ((at_ + j0 : Nat) : Int) + (k1 : Int) else 0) = (p : Int) := ⟨if e1 = 0 then at_ + j0 + k1 else 0, by split <;> simp⟩
                    rw [hp1] at hG1
                    have hkw : IntKind.u64.wrap (k : Int) = k := IntWalk.u64_in _ (by omega)
                    have Hrb1 := Lib.hid hrb1
                    clear hrb1
                    go_upto_region 23 with (go_at_call 114; refine hG1.mono ?_; rintro e w8 ⟨rfl, hb8⟩)
                    have hB8 := hBb.trans (hb8.mono hBb.size)
                    have Hb8 := Lib.hid hb8
                    clear hG1 hb8
                    by_cases hbad1 : e1 ≠ 0 ∨ pp < 1 ∨ k < pp
                    · have HoN := Lib.hid (Hso.out.bad (Or.inl (pEntA_1bad hgb hu1 hbad1)))
                      have hI1 : (e1 != 0) = true ∨ ((e1 != 0) = false ∧ (pp : Int) < 1) ∨ ((e1 != 0) = false ∧ ¬ (pp : Int) < 1 ∧ (k : Int) < (pp : Int)) := by
                        by_cases h : e1 = 0
                        · right
                          by_cases h1 : pp < 1
                          · left; exact ⟨by simp [h], by omega⟩
                          · right
                            refine ⟨by simp [h], by omega, ?_⟩
                            rcases hbad1 with hb | hb | hb
                            · exact absurd h hb
                            · exact absurd hb h1
                            · omega
                        · left; simpa using h
                      clear hbad1 hu1 hp1
                      rcases hI1 with hI1 | ⟨hI1, hI2⟩ | ⟨hI1, hI2, hI3⟩
                      all_goals
                        go_wp2_with fail
                        go_ret2
                        exact CommitPost.bad HoN.out hB8
                    · obtain rfl : e1 = 0 := by
                        by_cases h : e1 = 0
                        · exact h
                        · exact absurd (Or.inl h) hbad1
                      have hpp1 : 1 ≤ pp := by
                        by_cases h : pp < 1
                        · exact absurd (Or.inr (Or.inl h)) hbad1
                        · omega
                      have hppk : pp ≤ k := by
                        by_cases h : k < pp
                        · exact absurd (Or.inr (Or.inr h)) hbad1
                        · omega
                      have hq1 : ¬ (pp : Int) < 1 := by omega
                      have hq2 : ¬ (k : Int) < (pp : Int) := by omega
                      rw [if_pos rfl] at hp1
                      obtain rfl : p1 = at_ + j0 + k1 := by omega
                      have hat1 := gU_at hat0 hu1
                      obtain ⟨e2, fr, k2, hu2⟩ : ∃ er x y, gU (inn.drop (at_ + j0 + k1)) = (er, x, y) := ⟨_, _, _, rfl⟩
                      have hrb2 : Rd w8 (.slice a3 inn.length c3) (bcells inn) := Hrb1.out.below Hb8.out
                      have hG2 := x1GetUint_any w8 _ inn (at_ + j0 + k1) hrb2 Hcap.out hat1 (by omega)
                      unfold GuPost guVal guNext guErr at hG2
                      rw [hu2] at hG2
                      simp only at hG2
                      have hfr64 := gU_lt hu2
                      obtain ⟨p2, hp2⟩ : ∃ p : Nat, (if e2 = 0 then ((at_ + j0 + k1 : Nat) : Int) + (k2 : Int) else 0) = (p : Int) := ⟨if e2 = 0 then at_ + j0 + k1 + k2 else 0, by split <;> simp⟩
                      rw [hp2] at hG2
                      have Hrb2 := Lib.hid hrb2
                      clear hrb2 hbad1 hp1
                      go_upto_region 26 with (go_at_call 114; refine hG2.mono ?_; rintro e w9 ⟨rfl, hb9⟩)
                      have hB9 := hB8.trans (hb9.mono hB8.size)
                      have Hb9 := Lib.hid hb9
                      clear hG2 hb9 hq1 hq2
                      by_cases hbad2 : e2 ≠ 0 ∨ 9007199254740992 < fr
                      · have HoN := Lib.hid (Hso.out.bad (Or.inl (pEntA_2bad hgb hu1 hu2 hbad2)))
                        have hI1 : (e2 != 0) = true ∨ ((e2 != 0) = false ∧ (9007199254740992 : Int) < (fr : Int)) := by
                          by_cases h : e2 = 0
                          · right
                            refine ⟨by simp [h], ?_⟩
                            rcases hbad2 with hb | hb
                            · exact absurd h hb
                            · omega
                          · left; simpa using h
                        clear hbad2 hu1 hu2 hp2
                        rcases hI1 with hI1 | ⟨hI1, hI2⟩
                        all_goals
                          go_wp2_with fail
                          go_ret2
                          exact CommitPost.bad HoN.out hB9
                      · obtain rfl : e2 = 0 := by
                          by_cases h : e2 = 0
                          · exact h
                          · exact absurd (Or.inl h) hbad2
                        have hfr : fr ≤ 9007199254740992 := by
                          by_cases h : 9007199254740992 < fr
                          · exact absurd (Or.inr h) hbad2
                          · omega
                        have hq1 : ¬ (9007199254740992 : Int) < (fr : Int) := by omega
                        rw [if_pos rfl] at hp2
                        obtain rfl : p2 = at_ + j0 + k1 + k2 := by omega
                        have hat2 := gU_at hat1 hu2
                        obtain ⟨e3, lg, k3, hu3⟩ : ∃ er x y, gU (inn.drop (at_ + j0 + k1 + k2)) = (er, x, y) := ⟨_, _, _, rfl⟩
                        have hrb3 : Rd w9 (.slice a3 inn.length c3) (bcells inn) := Hrb2.out.below Hb9.out
                        have hG3 := x1GetUint_any w9 _ inn (at_ + j0 + k1 + k2) hrb3 Hcap.out hat2 (by omega)
                        unfold GuPost guVal guNext guErr at hG3
                        rw [hu3] at hG3
                        simp only at hG3
                        have hlg64 := gU_lt hu3
                        obtain ⟨p3, hp3⟩ : ∃ p : Nat, (if e3 = 0 then ((at_ + j0 + k1 + k2 : Nat) : Int) + (k3 : Int) else 0) = (p : Int) := ⟨if e3 = 0 then at_ + j0 + k1 + k2 + k3 else 0, by split <;> simp⟩
                        rw [hp3] at hG3
                        clear hrb3 hbad2 hp2
                        go_upto_region 29 with (go_at_call 114; refine hG3.mono ?_; rintro e w10 ⟨rfl, hb10⟩)
                        have hB10 := hB9.trans (hb10.mono hB9.size)
                        have Hb10 := Lib.hid hb10
                        clear hG3 hb10 hq1
                        by_cases hbad3 : e3 ≠ 0 ∨ 1048576 < lg
                        · have HoN := Lib.hid (Hso.out.bad (Or.inl (pEntA_3bad hgb hu1 hu2 hu3 hbad3)))
                          have hI1 : (e3 != 0) = true ∨ ((e3 != 0) = false ∧ (1048576 : Int) < (lg : Int)) := by
                            by_cases h : e3 = 0
                            · right
                              refine ⟨by simp [h], ?_⟩
                              rcases hbad3 with hb | hb
                              · exact absurd h hb
                              · omega
                            · left; simpa using h
                          clear hbad3 hu1 hu2 hu3 hp3
                          rcases hI1 with hI1 | ⟨hI1, hI2⟩
                          all_goals
                            go_wp2_with fail
                            go_ret2
                            exact CommitPost.bad HoN.out hB10
                        · obtain rfl : e3 = 0 := by
                            by_cases h : e3 = 0
                            · exact h
                            · exact absurd (Or.inl h) hbad3
                          have hlg : lg ≤ 1048576 := by
                            by_cases h : 1048576 < lg
                            · exact absurd (Or.inr h) hbad3
                            · omega
                          have hq1 : ¬ (1048576 : Int) < (lg : Int) := by omega
                          rw [if_pos rfl] at hp3
                          obtain rfl : p3 = at_ + j0 + k1 + k2 + k3 := by omega
                          have hE := pEntA_all hgb hu1 hu2 hu3 hk hnz hpp1 hppk hfr hlg
                          have HE := Lib.hid hE
                          clear hE hbad3 hp3 hu1 hu2 hu3 hgb
                          have hD10 : w10.heap[w.heap.size]? = some (.cells #[.int .i64 d.most, .slice a n c, .int .i64 d.left, .bool d.down] 74) := by
                            have h1 := (HR.out.2.2.2.1.block _ (blk_lt HD5.out)).trans HD5.out
                            have h2 := (H7.out.2.1.block _ (blk_lt h1)).trans h1
                            have h3 := (Hcb.out.block _ (blk_lt h2)).trans h2
                            have h4 := (Hb8.out.block _ (blk_lt h3)).trans h3
                            have h5 := (Hb9.out.block _ (blk_lt h4)).trans h4
                            exact (Hb10.out.block _ (blk_lt h5)).trans h5
                          have hDl := blk_lt hD10
                          obtain ⟨y0, y1, y2, y3, _⟩ := cells4 (w := w10.drew) hD10
                          have hPk := r5Pack_any w10.drew pp (by omega)
                          have hRd2 := refRead_low w w10.drew a n c d (cName pp) h hB10.drew hw
                          unfold refVal at hRd2
                          have hwp : IntKind.i64.wrap (pp : Int) = pp := IntWalk.i64_in _ (by omega)
                          clear hD10
                          go_wp2_with fail
                          go_region_held3 (fun w' => w'.cell? ⟨w.heap.size, 0, none⟩ = some (.int .i64 d.most) ∧ w'.cell? ⟨w.heap.size, 1, none⟩ = some (.slice a n c) ∧ w'.cell? ⟨w.heap.size, 2, none⟩ = some (.int .i64 d.left) ∧ w'.cell? ⟨w.heap.size, 3, none⟩ = some (.bool d.down))
                            (first | exact ⟨y0, y1, y2, y3⟩ | exact S3 | go_keep)
                            (first
                              | (go_at_call 116; (with_reducible refine hPk.mono ?_); rintro e w1' ⟨rfl, rfl⟩)
                              | (go_at_call 74; (with_reducible refine hRd2.mono ?_); rintro e w11 ⟨a11, n11, c11, rfl, hr11, hb11, hcap11⟩; have S3 : w11.cell? ⟨w.heap.size, 0, none⟩ = some (.int .i64 d.most) ∧ w11.cell? ⟨w.heap.size, 1, none⟩ = some (.slice a n c) ∧ w11.cell? ⟨w.heap.size, 2, none⟩ = some (.int .i64 d.left) ∧ w11.cell? ⟨w.heap.size, 3, none⟩ = some (.bool d.down) := ⟨(hb11.cell (p := ⟨w.heap.size, 0, none⟩) hDl).trans y0, (hb11.cell (p := ⟨w.heap.size, 1, none⟩) hDl).trans y1, (hb11.cell (p := ⟨w.heap.size, 2, none⟩) hDl).trans y2, (hb11.cell (p := ⟨w.heap.size, 3, none⟩) hDl).trans y3⟩))
                          have hB11 : Below w.heap.size w w11 := hB10.drew.trans (hb11.mono hB10.size)
                          have Hb11 := Lib.hid ((Below.refl w10.heap.size w10).drew.trans hb11)
                          clear hPk hRd2 hb11 y0 y1 y2 y3 hwp hq1
                          obtain ⟨fe2, hfe2⟩ : ∃ fe, findErr d (cName pp) = fe := ⟨_, rfl⟩
                          obtain ⟨bs, hbs⟩ : ∃ b, d.readBytes (cName pp) = b := ⟨_, rfl⟩
                          have hbsl : bs.length ≤ 16777216 := by rw [← hbs]; exact readBytes_le hw _
                          rw [hbs] at hr11
                          rw [hfe2]
                          obtain ⟨_, _, hv11⟩ := hr11.shape
                          cases hv11
                          rw [bcells_length] at hr11 hcap11 ⊢
                          obtain ⟨_, _, _, hv12, hnc11, hcm11⟩ := hcap11
                          cases hv12
                          simp only [maxLen] at hcm11
                          have hsw : IntKind.u64.wrap ((fr : Int) + (lg : Int)) = (fr : Int) + (lg : Int) := IntWalk.u64_in _ (by omega)
                          have hbw2 : IntKind.u64.wrap (bs.length : Int) = (bs.length : Int) := IntWalk.u64_in _ (by omega)
                          have Hr11 := Lib.hid hr11
                          clear hr11
                          by_cases hokx : fe2 = 0 ∧ fr + lg ≤ bs.length
                          · obtain ⟨h0f, hsum⟩ := hokx
                            subst h0f
                            have Hokx := Lib.hid (show okB d ⟨⟨nm.toArray⟩, pp, fr, lg⟩ from ⟨hfe2, by rw [hbs]; exact hsum⟩)
                            have hsI : ¬ (bs.length : Int) < (fr : Int) + (lg : Int) := by omega
                            have Hbs := Lib.hid hbs
                            clear hfe2 hbs
                            go_upto_region 34 with fail
                            have hb711 : Below w7.heap.size w7 w11 := Hcb.out.trans ((Hb8.out.trans ((Hb9.out.trans ((Hb10.out.trans (Hb11.out.mono Hb10.out.size)).mono Hb9.out.size)).mono Hb8.out.size)).mono Hcb.out.size)
                            have hbq11 : Below wq.heap.size wq w11 := H7.out.2.1.trans (hb711.mono H7.out.2.1.size)
                            have hkn : ∀ wz, Upd (fun k => (Value.slice al es.length cl).ownBlock = some k) w11.drew wz → (convert 25 9 (.slice a7 nm.length c7)).run Tryz.prog wz = .ok (.string ⟨nm.toArray⟩) wz := fun wz hz =>
                              run_bytes_str (P := Tryz.prog) (Rd.keepN (H7.out.1.below hb711.drew) hz (fun _ g hg e => by have h1 := row_lt HR.out.1 e; have h2 := Hn7.out g hg; omega)) (src := 25) (dst := 9) (e := 5) Tryz.underlying25 Tryz.underlying5 Tryz.underlying9
                            have Hkc := Lib.hid hkn
                            obtain ⟨aD, haD⟩ : ∃ y, (if c11 = fr then a11 else Option.map (fun y => y.add fr) a11) = y := ⟨_, rfl⟩
                            have hvb := rd_sub5 Hr11.out hnc11 fr lg hsum
                            rw [haD] at hvb
                            have hvb' : Rd w (.slice aD lg (c11 - fr)) (bcells ((bs.drop fr).take lg)) := by
                              unfold bcells at hvb ⊢
                              rw [List.map_take, List.map_drop]
                              exact hvb
                            have Hvb := Lib.hid hvb'
                            have Hbq11 := Lib.hid hbq11
                            have hsumI : (fr : Int) + (lg : Int) ≤ (c11 : Int) := by omega
                            have hple : (fr : Int) ≤ (fr : Int) + (lg : Int) := by omega
                            have hwp : IntKind.i64.wrap (pp : Int) = pp := IntWalk.i64_in _ (by omega)
                            have hwf : IntKind.i64.wrap (fr : Int) = fr := IntWalk.i64_in _ (by omega)
                            clear hvb hvb' hb711 hbq11 hkn
                            refine wp_region_held_drew (S := fun w' => Upd (fun k => (Value.slice al es.length cl).ownBlock = some k) w11.drew w') (by kernel_rfl) (Upd.refl _ _) (fun hHeld => ?_)
                            refine wpAnyH_take (i := 0) (v := ?_) rfl (by kernel_rfl) (by kernel_rfl) (by kernel_rfl) (fun _ _ _ h => h) (Or.inl ⟨by rfl, ?_⟩) (by assumption) ?_
                            rotate_left
                            · (intro wz hSz; (try dsimp only at hSz); go_simp) <;> with_reducible rfl
                            simp only [Act.put, List.getElem_toArray, List.getElem_cons_zero, List.getElem_cons_succ, List.setIfInBounds_toArray, List.set_cons_zero, List.set_cons_succ]
                            refine wpAnyH_take (i := 1) (v := ?_) rfl (by kernel_rfl) (by kernel_rfl) (by kernel_rfl) (fun _ _ _ h => h) (Or.inl ⟨by rfl, ?_⟩) (by assumption) ?_
                            rotate_left
                            · (intro wz hSz; (try dsimp only at hSz); go_simp) <;> with_reducible rfl
                            simp only [Act.put, List.getElem_toArray, List.getElem_cons_zero, List.getElem_cons_succ, List.setIfInBounds_toArray, List.set_cons_zero, List.set_cons_succ]
                            refine wpAnyH_take (i := 2) (v := ?_) rfl (by kernel_rfl) (by kernel_rfl) (by kernel_rfl) (fun _ _ _ h => h) (Or.inl ⟨by rfl, ?_⟩) (by assumption) ?_
                            rotate_left
                            · (intro wz hSz; (try dsimp only at hSz); have hcz := Hkc.out wz hSz; go_simp) <;> with_reducible rfl
                            simp only [Act.put, List.getElem_toArray, List.getElem_cons_zero, List.getElem_cons_succ, List.setIfInBounds_toArray, List.set_cons_zero, List.set_cons_succ]
                            refine wpAnyH_take (i := 3) (v := ?_) rfl (by kernel_rfl) (by kernel_rfl) (by kernel_rfl) (fun _ _ _ h => h) (Or.inl ⟨by rfl, ?_⟩) (by assumption) ?_
                            rotate_left
                            · (intro wz hSz; (try dsimp only at hSz); go_simp) <;> with_reducible rfl
                            simp only [Act.put, List.getElem_toArray, List.getElem_cons_zero, List.getElem_cons_succ, List.setIfInBounds_toArray, List.set_cons_zero, List.set_cons_succ]
                            refine wpAnyH_take (i := 4) (v := ?_) rfl (by kernel_rfl) (by kernel_rfl) (by kernel_rfl) (fun _ _ _ h => h) (Or.inl ⟨by rfl, ?_⟩) (by assumption) ?_
                            rotate_left
                            · (intro wz hSz; (try dsimp only at hSz); go_simp) <;> with_reducible rfl
                            simp only [Act.put, List.getElem_toArray, List.getElem_cons_zero, List.getElem_cons_succ, List.setIfInBounds_toArray, List.set_cons_zero, List.set_cons_succ]
                            refine wpAnyH_take (i := 5) (v := ?_) rfl (by kernel_rfl) (by kernel_rfl) (by kernel_rfl) (fun _ _ _ h => h) (Or.inl ⟨by rfl, ?_⟩) (by assumption) ?_
                            rotate_left
                            · (intro wz hSz; (try dsimp only at hSz); go_simp) <;> with_reducible rfl
                            simp only [Act.put, List.getElem_toArray, List.getElem_cons_zero, List.getElem_cons_succ, List.setIfInBounds_toArray, List.set_cons_zero, List.set_cons_succ]
                            refine wpAnyH_take (i := 6) (v := ?_) rfl (by kernel_rfl) (by kernel_rfl) (by kernel_rfl) (fun _ _ _ h => h) (Or.inl ⟨by rfl, ?_⟩) (by assumption) ?_
                            rotate_left
                            · (intro wz hSz; (try dsimp only at hSz); go_simp) <;> with_reducible rfl
                            simp only [Act.put, List.getElem_toArray, List.getElem_cons_zero, List.getElem_cons_succ, List.setIfInBounds_toArray, List.set_cons_zero, List.set_cons_succ]
                            refine wpAnyH_take (i := 7) (v := ?_) rfl (by kernel_rfl) (by kernel_rfl) (by kernel_rfl) (fun _ _ _ h => h) (Or.inl ⟨by rfl, ?_⟩) (by assumption) ?_
                            rotate_left
                            · (intro wz hSz; (try dsimp only at hSz); go_simp) <;> with_reducible rfl
                            simp only [Act.put, List.getElem_toArray, List.getElem_cons_zero, List.getElem_cons_succ, List.setIfInBounds_toArray, List.set_cons_zero, List.set_cons_succ]
                            refine wpAnyH_take (i := 8) (v := ?_) rfl (by kernel_rfl) (by kernel_rfl) (by kernel_rfl) (fun _ _ _ h => h) (Or.inl ⟨by rfl, ?_⟩) (by assumption) ?_
                            rotate_left
                            · (intro wz hSz; (try dsimp only at hSz); go_simp) <;> with_reducible rfl
                            simp only [Act.put, List.getElem_toArray, List.getElem_cons_zero, List.getElem_cons_succ, List.setIfInBounds_toArray, List.set_cons_zero, List.set_cons_succ]
                            refine wpAnyH_take (i := 9) (v := ?_) rfl (by kernel_rfl) (by kernel_rfl) (by kernel_rfl) (fun _ _ _ h => h) (Or.inl ⟨by rfl, ?_⟩) (by assumption) ?_
                            rotate_left
                            · (intro wz hSz; (try dsimp only at hSz); go_simp) <;> with_reducible rfl
                            simp only [Act.put, List.getElem_toArray, List.getElem_cons_zero, List.getElem_cons_succ, List.setIfInBounds_toArray, List.set_cons_zero, List.set_cons_succ]
                            refine wpAnyH_take (i := 10) (v := ?_) rfl (by kernel_rfl) (by kernel_rfl) (by kernel_rfl) (fun _ _ _ h => h) (Or.inl ⟨by rfl, ?_⟩) (by assumption) ?_
                            rotate_left
                            · (intro wz hSz; (try dsimp only at hSz); go_simp) <;> with_reducible rfl
                            simp only [Act.put, List.getElem_toArray, List.getElem_cons_zero, List.getElem_cons_succ, List.setIfInBounds_toArray, List.set_cons_zero, List.set_cons_succ]
                            refine wpAnyH_take (i := 11) (v := ?_) rfl (by kernel_rfl) (by kernel_rfl) (by kernel_rfl) (fun _ _ _ h => h) (Or.inl ⟨by rfl, ?_⟩) (by assumption) ?_
                            rotate_left
                            · (intro wz hSz; (try dsimp only at hSz); go_simp) <;> with_reducible rfl
                            simp only [Act.put, List.getElem_toArray, List.getElem_cons_zero, List.getElem_cons_succ, List.setIfInBounds_toArray, List.set_cons_zero, List.set_cons_succ]
                            refine wpAnyH_take (i := 12) (v := ?_) rfl (by kernel_rfl) (by kernel_rfl) (by kernel_rfl) (fun _ _ _ h => h) (Or.inl ⟨by rfl, ?_⟩) (by assumption) ?_
                            rotate_left
                            · (intro wz hSz; (try dsimp only at hSz); go_simp) <;> with_reducible rfl
                            simp only [Act.put, List.getElem_toArray, List.getElem_cons_zero, List.getElem_cons_succ, List.setIfInBounds_toArray, List.set_cons_zero, List.set_cons_succ]
                            refine wpAnyH_take (i := 13) (v := ?_) rfl (by kernel_rfl) (by kernel_rfl) (by kernel_rfl) (fun _ _ _ h => h) (Or.inl ⟨by rfl, ?_⟩) (by assumption) ?_
                            rotate_left
                            · (intro wz hSz; (try dsimp only at hSz); go_simp) <;> with_reducible rfl
                            simp only [Act.put, List.getElem_toArray, List.getElem_cons_zero, List.getElem_cons_succ, List.setIfInBounds_toArray, List.set_cons_zero, List.set_cons_succ]
                            refine wpAnyH_ready (rs := [14]) (by kernel_rfl) (by simp) (AllReadyH.cons rfl (fun K hK => ?_) AllReadyH.nil)
                            go_simp
                            refine hK.out _ _ ((Upd.refl _ _).alloc _) (fun hHeld => ?_)
                            clear hK K
                            (try simp only [Act.put, List.getElem_toArray, List.getElem_cons_zero, List.getElem_cons_succ, List.setIfInBounds_toArray, List.set_cons_zero, List.set_cons_succ])
                            rw [show ((fr : Int) + (lg : Int)).toNat - fr = lg by omega]
                            have hAl : ((w11.alloc (.cells #[.string ⟨nm.toArray⟩, .slice aD lg (c11 - fr), .int .i64 (pp : Nat), .int .i64 (fr : Nat)] 140)).drew).heap[w11.heap.size]? = some (.cells #[.string ⟨nm.toArray⟩, .slice aD lg (c11 - fr), .int .i64 (pp : Nat), .int .i64 (fr : Nat)] 140) := alloc_at w11 (.cells #[.string ⟨nm.toArray⟩, .slice aD lg (c11 - fr), .int .i64 (pp : Nat), .int .i64 (fr : Nat)] 140)
                            have hb12 : Below w11.heap.size w11 ((w11.alloc (.cells #[.string ⟨nm.toArray⟩, .slice aD lg (c11 - fr), .int .i64 (pp : Nat), .int .i64 (fr : Nat)] 140)).drew) := ((Below.refl _ _).alloc (Nat.le_refl _) _).drew
                            have hU12 : Upd (fun k => (Value.slice al es.length cl).ownBlock = some k) w11.drew ((w11.alloc (.cells #[.string ⟨nm.toArray⟩, .slice aD lg (c11 - fr), .int .i64 (pp : Nat), .int .i64 (fr : Nat)] 140)).drew) := (show Upd (fun k => (Value.slice al es.length cl).ownBlock = some k) w11.drew (w11.drew.alloc (.cells #[.string ⟨nm.toArray⟩, .slice aD lg (c11 - fr), .int .i64 (pp : Nat), .int .i64 (fr : Nat)] 140)) from (Upd.refl _ _).alloc _)
                            obtain ⟨w12, hw12⟩ : ∃ y, (w11.alloc (.cells #[.string ⟨nm.toArray⟩, .slice aD lg (c11 - fr), .int .i64 (pp : Nat), .int .i64 (fr : Nat)] 140)).drew = y := ⟨_, rfl⟩
                            rw [hw12] at hAl hb12 hU12 ⊢
                            clear hw12
                            have hbq12 : Below wq.heap.size wq w12 := Hbq11.out.trans (hb12.mono Hbq11.out.size)
                            have hs512 : w5.heap.size ≤ w12.heap.size := Nat.le_trans HR.out.2.2.2.1.size hbq12.size
                            have hrow12 : w12.ownsRow w5.heap.size 140 4 (.slice al es.length cl) ks.length (flatD ks) := by
                              have h1 := (Upd.ofBelow (fp := noFp) hbq12).row HR.out.1 (fun _ _ h => h)
                              have h2 := Hkl.out
                              rw [h2] at h1 ⊢
                              exact h1
                            refine wpAnyH_ready (rs := [15]) (by kernel_rfl) (by simp) (AllReadyH.cons rfl (fun K hK => ?_) AllReadyH.nil)
                            refine step_append_key rfl (.tmp 166) (.tmp 180) rfl w5.heap.size (.slice al es.length cl) ks ⟨⟨nm.toArray⟩, .slice aD lg (c11 - fr), (bs.drop fr).take lg, pp, fr⟩ w11.heap.size 1 1 rfl rfl hrow12 rfl hAl rfl (by have := Hkl.out; omega) hs512 (es.length + 1) (by rw [← Hkl.out]) _ rfl ?_
                            intro g cap w13 hown hg hat
                            have hU13 : Upd (fun k => (Value.slice al es.length cl).ownBlock = some k) w12 w13 := (Upd.refl _ w12).grown hg (fun j hj => Or.inl hj)
                            refine hK.out _ _ (hU12.trans hU13 (fun _ h => Or.inl h)) (fun hHeld => ?_)
                            clear hK K
                            (try simp only [Act.put, List.getElem_toArray, List.getElem_cons_zero, List.getElem_cons_succ, List.setIfInBounds_toArray, List.set_cons_zero, List.set_cons_succ])
                            refine wpAnyH_take (i := 16) (v := ?_) rfl (by kernel_rfl) (by kernel_rfl) (by kernel_rfl) (fun _ _ _ h => h) (Or.inl ⟨by rfl, ?_⟩) (by assumption) ?_
                            rotate_left
                            · (intro wz hSz; (try dsimp only at hSz); go_simp) <;> with_reducible rfl
                            simp only [Act.put, List.getElem_toArray, List.getElem_cons_zero, List.getElem_cons_succ, List.setIfInBounds_toArray, List.set_cons_zero, List.set_cons_succ]
                            refine wpAnyH_done (by kernel_rfl) ?_ _
                            have hb13 : Below w5.heap.size w5 w13 := (HR.out.2.2.2.1.trans (hbq12.mono HR.out.2.2.2.1.size)).trans (hU13.below (fun j hj => (HR.out.1.lt j hj).1) hs512)
                            obtain ⟨x, hx⟩ : ∃ x : AEnt, (⟨⟨nm.toArray⟩, pp, fr, lg⟩ : AEnt) = x := ⟨_, rfl⟩
                            obtain ⟨ek, hek⟩ : ∃ x : DKey, (⟨⟨nm.toArray⟩, .slice aD lg (c11 - fr), (bs.drop fr).take lg, pp, fr⟩ : DKey) = x := ⟨_, rfl⟩
                            have hl1 : (es ++ [x]).length = es.length + 1 := by simp
                            have hown1 : w13.ownsRow w5.heap.size 140 4 (.slice (some ⟨g, 0, none⟩) (es ++ [x]).length cap) (es ++ [x]).length (flatD (ks ++ [ek])) := by rw [hl1, ← hek]; exact hown
                            have hks1 : (ks ++ [ek]).map DKey.plain = blobsB d (es ++ [x]) := by
                              rw [List.map_append, HR.out.2.1]
                              unfold blobsB
                              rw [List.map_append, ← hek, ← hx]
                              simp only [List.map_cons, List.map_nil, DKey.plain, blobB, Hbs.out]
                            have hok1 : ∀ y ∈ ks ++ [ek], y.ok w := fun y hy => by
                              rcases List.mem_append.1 hy with hy | hy
                              · exact HR.out.2.2.1 y hy
                              · rw [List.mem_singleton.1 hy, ← hek]; exact Hvb.out
                            have hso1 : RSo d inn b k o (nn - (es ++ [x]).length) (at_ + j0 + k1 + k2 + k3) (es ++ [x]) := by
                              rw [hl1, show nn - (es.length + 1) = n1 by omega, ← hx]
                              exact Hso.out.next HE.out Hno.out Hokx.out
                            have Hn := Lib.hid (And.intro hl1 (And.intro hown1 (And.intro hks1 (And.intro hok1 (And.intro hb13 hso1)))))
                            clear hg hat hHeld hU12 hU13 hAl hb12 hbq12 hs512 hrow12 hown hb13 hown1 hks1 hok1 hso1 hl1 hx hek
                            go_wp2
                            go_roundw
                            case rel => exact ⟨at_ + j0 + k1 + k2 + k3, es ++ [x], ks ++ [ek], some ⟨g, 0, none⟩, cap, by rw [Hn.out.1]; omega, by go_num, by rw [Hn.out.1], by rw [Hn.out.1]; go_num, Hn.out.2.1, Hn.out.2.2.1, Hn.out.2.2.2.1, Hn.out.2.2.2.2.1, Hn.out.2.2.2.2.2⟩
                            case measure => simp [intOf]; omega
                          · have HoN := Lib.hid (Hso.out.bad (Or.inr ⟨_, _, HE.out, Or.inr (fun e => hokx ⟨hfe2.symm.trans e.1, by have h2 := e.2; rw [hbs] at h2; exact h2⟩)⟩))
                            have hI1 : (fe2 != 0) = true ∨ ((fe2 != 0) = false ∧ (bs.length : Int) < (fr : Int) + (lg : Int)) := by
                              by_cases h : fe2 = 0
                              · right
                                refine ⟨by simp [h], ?_⟩
                                have : ¬ fr + lg ≤ bs.length := fun e => hokx ⟨h, e⟩
                                omega
                              · left; simpa using h
                            clear hokx hfe2 hbs
                            rcases hI1 with hI1 | ⟨hI1, hI2⟩
                            all_goals
                              go_wp2_with fail
                              go_ret2
                              exact CommitPost.bad HoN.out hB11
              · obtain rfl : nn = es.length := by omega
                have hkl : es.length = ks.length := by
                  have := congrArg List.length HR.out.2.1
                  simpa [blobsB] using this.symm
                have hDK : DKeys wq al es.length cl (blobsB d es) := DKeys.of_row HR.out.1 hkl (by simp only [maxLen]; omega) (fun x hx => (HR.out.2.2.1 x hx).below (H5.out.2.2.trans (HR.out.2.2.2.1.mono H5.out.2.2.size))) HR.out.2.1.symm
                have hBw : Below w.heap.size w wq := H5.out.2.2.trans (HR.out.2.2.2.1.mono H5.out.2.2.size)
                have hKB : ∀ p ∈ blobsB d es, KeyB p := fun p hp => by
                  unfold blobsB at hp
                  obtain ⟨x, hx, rfl⟩ := List.mem_map.1 hp
                  have hb := HR.out.2.2.2.2.bnd x hx
                  exact ⟨hb.n1, hb.pg, hb.a1, by show (blobB d x).b.length ≤ 1048576; rw [blobB_len (HR.out.2.2.2.2.ok x hx)]; exact hb.l1⟩
                have hBy := r5Bytes_any wq k al es.length cl (blobsB d es) hDK hk (by unfold blobsB; rw [List.length_map]; omega) hKB
                have hso := HR.out.2.2.2.2
                rw [Nat.sub_self] at hso
                have Ho := Lib.hid hso.done
                have hrb := Lib.hid (H5.out.2.1.below HR.out.2.2.2.1)
                have HDK := Lib.hid hDK
                obtain ⟨ix, hix⟩ : ∃ ix, indexOf k (blobsB d es) = ix := ⟨_, rfl⟩
                rw [hix] at hBy Ho
                clear hix hso hKB hDK hlt hkl
                go_upto_region 37 with (go_at_call 117; refine hBy.mono ?_; rintro e w6 ⟨a6, c6, rfl, hr6, hb6⟩)
                have hB6 : Below w.heap.size w w6 := hBw.trans (hb6.mono hBw.size)
                have Hb6 := Lib.hid (And.intro (hrb.out.below hb6) (And.intro hr6 (HDK.out.below hb6)))
                clear hBy hrb hr6 hb6 hBw HDK
                by_cases hll : ix.length = b.length
                · have hllb : ((ix.length : Int) != (b.length : Int)) = false := by simp [hll]
                  have Hll := Lib.hid hll
                  clear hll
                  go_wp2_with fail
                  go_loopw [22] (fun iv wr => ∃ i : Nat, i ≤ b.length ∧ iv = .int .i64 i ∧ ix.take i = b.take i ∧ Below w6.heap.size w6 wr) (fun iv _ => b.length - (intOf iv).toNat)
                  case atStart => exact ⟨0, by omega, rfl, by simp, Below.refl _ _⟩
                  case round =>
                    obtain ⟨i, hi, rfl, htk, hBz⟩ := hrel
                    obtain ⟨wz, rfl⟩ : ∃ x, x = wr := ⟨_, rfl⟩
                    have Htk := Lib.hid htk
                    clear htk
                    by_cases hlt : i < b.length
                    · obtain ⟨bb, ob, rfl, cb⟩ := (Hb6.out.1.below hBz).at i (by rw [bcells_length]; exact hlt)
                      obtain ⟨bx, ox, rfl, cx⟩ := (Hb6.out.2.1.below hBz).at i (by rw [bcells_length, Hll.out]; exact hlt)
                      have hli : i < ix.length := by rw [Hll.out]; exact hlt
                      simp only [bcells, List.getElem_map] at cb cx
                      have t1 : ix.take (i + 1) = ix.take i ++ [ix[i]] := List.take_succ_eq_append_getElem hli
                      have t2 : b.take (i + 1) = b.take i ++ [b[i]] := List.take_succ_eq_append_getElem hlt
                      have hne : b[i] ≠ ix[i] → ix ≠ b := fun hq e => hq (by subst e; rfl)
                      obtain ⟨x, hx⟩ : ∃ x, b[i] = x := ⟨_, rfl⟩
                      obtain ⟨y, hy⟩ : ∃ y, ix[i] = y := ⟨_, rfl⟩
                      rw [hx] at cb t2 hne
                      rw [hy] at cx t1 hne
                      clear hx hy
                      have hltI : (i : Int) < (b.length : Int) := by omega
                      by_cases hxy : x = y
                      · have hq : ((x.toNat : Int) != (y.toNat : Int)) = false := by rw [hxy]; simp
                        have Hn := Lib.hid (show ix.take (i + 1) = b.take (i + 1) by rw [t1, t2, Htk.out, hxy])
                        clear hxy t1 t2 hne
                        go_wp2_with fail
                        refine wp_region_reads (by kernel_rfl) (by kernel_rfl) ?_
                        repeat still_step
                        refine wpStill_nil ?_
                        go_wp2
                        go_roundw
                        case rel =>
                          exact ⟨i + 1, by omega, by go_num, Hn.out, hBz.drew⟩
                        case measure => simp [intOf]; omega
                      · have hz : ¬ (x.toNat : Int) = (y.toNat : Int) := fun e => hxy (UInt8.toNat.inj (by omega))
                        have hq : ((x.toNat : Int) != (y.toNat : Int)) = true := by simpa using hz
                        have HoN := Lib.hid (Ho.out.trans (if_neg (hne hxy)))
                        clear hxy t1 t2 hne hz
                        go_wp2_with fail
                        refine wp_region_reads (by kernel_rfl) (by kernel_rfl) ?_
                        repeat still_step
                        refine wpStill_nil ?_
                        go_wp2
                        go_ret2
                        exact CommitPost.bad HoN.out (hB6.trans (hBz.drew.mono hB6.size))
                    · obtain rfl : i = b.length := by omega
                      have hfin : ix = b := by
                        have := Htk.out
                        rw [List.take_of_length_le (by rw [Hll.out]; omega), List.take_length] at this
                        exact this
                      have Hoo := Lib.hid (Ho.out.trans (if_pos hfin))
                      go_wp2_with fail
                      go_ret2
                      exact CommitPost.good Hoo.out (hB6.trans (hBz.mono hB6.size)) (Hb6.out.2.2.below hBz)
                · have hllb : ((ix.length : Int) != (b.length : Int)) = true := by simpa using (fun e => hll (by omega) : ¬ (ix.length : Int) = (b.length : Int))
                  have HoN := Lib.hid (Ho.out.trans (if_neg (fun e => hll (by rw [e]))))
                  clear hll
                  go_wp2_with fail
                  go_ret2
                  exact CommitPost.bad HoN.out hB6
        · have HoN := Lib.hid (Hx.out.trans (rIdx_bad1 H4.out hg1 he1))
          have hI1 : (e1 != 0) = true := by simpa using he1
          clear hp4 hg1 he1
          go_wp2_with fail
          go_ret2
          exact CommitPost.bad HoN.out hB4
    · have hoN : o = none := by rw [← ho]; unfold rCommit; rw [if_neg h0, if_pos (by rw [hfe]; exact he)]
      have HoN := Lib.hid hoN
      have hI1 : (fe != 0) = true := by simpa using he
      clear hoN ho hfe he
      go_wp2_with fail
      go_ret2
      exact CommitPost.bad HoN.out hB2
end Go.Proofs.YtbepcjajbcecnaaGreatDoor
