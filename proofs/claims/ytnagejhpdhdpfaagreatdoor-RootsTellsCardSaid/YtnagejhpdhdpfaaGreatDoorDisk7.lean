/-
  The walk of Crash.
-/
import Derived.Outline
import Derived.Test.YtnagejhpdhdpfaaGreatDoorDisk6
namespace Go.Proofs.YtnagejhpdhdpfaaGreatDoor
open Go.RowKit Go.Maps Go.MapKept

def AFile.kept (f : AFile) (x : Int) : AFile := ⟨(f.firm ++ f.loose).take (f.firm.length + (min (max x 0) f.loose.length).toNat), []⟩
def crashK (fs : List (ByteArray × AFile)) (keeps : List Int) : Nat → List (ByteArray × AFile)
  | 0 => fs
  | k + 1 => match fs[k]? with
    | some q => putF (crashK fs keeps k) q.1 (q.2.kept (keeps.getD k 0))
    | none => crashK fs keeps k
def ADisk.crash (d : ADisk) (keeps : List Int) : ADisk := { d with left := -1, down := false, fs := crashK d.fs keeps d.fs.length }

theorem crashK_sorted {fs : List (ByteArray × AFile)} (h : SortedF fs) (keeps : List Int) (k : Nat) : SortedF (crashK fs keeps k) := by
  induction k with
  | zero => exact h
  | succ k ih =>
    simp only [crashK]
    split
    · exact sorted_putF ih _ _
    · exact ih
theorem crashK_later {fs : List (ByteArray × AFile)} (h : SortedF fs) (keeps : List Int) (k j : Nat) (hj : k ≤ j) (hjl : j < fs.length) : lk (crashK fs keeps k) fs[j].1 = some fs[j].2 := by
  induction k with
  | zero => exact mem_lk h (List.getElem_mem hjl)
  | succ k ih =>
    have ih := ih (by omega)
    simp only [crashK]
    rw [List.getElem?_eq_getElem (by omega : k < fs.length)]
    simp only [lk_putF]
    rw [if_neg, ih]
    intro e
    have := List.pairwise_iff_getElem.1 h k j (by omega) hjl (by omega)
    exact ltS_ne this e.symm
theorem kept_len (f : AFile) (x : Int) : (f.kept x).len ≤ f.len := by
  simp only [AFile.kept, AFile.len]
  simp
  omega
theorem ADisk.WF.crashK {d : ADisk} (h : d.WF) (keeps : List Int) (k : Nat) : ({ d with fs := crashK d.fs keeps k } : ADisk).WF := by
  induction k with
  | zero => exact h
  | succ k ih =>
    simp only [Proofs.YtnagejhpdhdpfaaGreatDoor.crashK]
    cases hq : d.fs[k]? with
    | none => exact ih
    | some q =>
      obtain ⟨hk, hqe⟩ := List.getElem?_eq_some_iff.1 hq
      have hl := crashK_later h.sorted keeps k k (Nat.le_refl _) hk
      rw [hqe] at hl
      have h1 := used_putF ih.sorted q.1 (q.2.kept (keeps.getD k 0))
      change usedF _ + ((lk (Proofs.YtnagejhpdhdpfaaGreatDoor.crashK d.fs keeps k) q.1).map AFile.len).getD 0 = usedF (Proofs.YtnagejhpdhdpfaaGreatDoor.crashK d.fs keeps k) + _ at h1
      rw [hl] at h1
      have h2 := kept_len q.2 (keeps.getD k 0)
      have h3 := ih.used
      refine { ih with sorted := sorted_putF ih.sorted _ _, names := fun r hr => ?_, used := ?_, count := ?_ }
      · rcases mem_putF hr with rfl | hr
        · exact ih.names (q.1, q.2) (lk_some_mem hl)
        · exact ih.names r hr
      · change ((usedF (putF (Proofs.YtnagejhpdhdpfaaGreatDoor.crashK d.fs keeps k) q.1 (q.2.kept (keeps.getD k 0))) : Nat) : Int) ≤ d.most
        change ((usedF (Proofs.YtnagejhpdhdpfaaGreatDoor.crashK d.fs keeps k) : Nat) : Int) ≤ d.most at h3
        simp only [Option.map_some, Option.getD_some] at h1
        change usedF (putF (Proofs.YtnagejhpdhdpfaaGreatDoor.crashK d.fs keeps k) q.1 (q.2.kept (keeps.getD k 0))) + _ = _ at h1
        omega
      · change (putF (Proofs.YtnagejhpdhdpfaaGreatDoor.crashK d.fs keeps k) q.1 (q.2.kept (keeps.getD k 0))).length ≤ 200
        rw [length_putF (fs := Proofs.YtnagejhpdhdpfaaGreatDoor.crashK d.fs keeps k) ih.sorted]
        rw [hl]
        exact ih.count

theorem DiskPost.bind {w w1 w2 : World} {p m : Nat} {g : Value → Option Value} {d1 d2 : ADisk} (h : DiskPost w p m g d1 w1) (h2 : ∀ g1, DiskRep w1 p m g1 d1 → DiskPost w1 p m g1 d2 w2) : DiskPost w p m g d2 w2 := by
  obtain ⟨g1, hr, hU, hfp⟩ := h
  obtain ⟨g2, hr2, hU2, hfp2⟩ := h2 g1 hr
  have hs := hU.size
  refine ⟨g2, hr2, hU.trans hU2 hfp, fun k hk => ?_⟩
  rcases hfp2 k hk with hk | hk
  · exact hfp k hk
  · exact Or.inr (by omega)

theorem first_int (w : World) (v : Value) (f : AFile) (z : Int) (n : Nat) (hz : z = n) (hf : FileAt w v f) (hn : n ≤ f.len) :
    Calls Tryz.prog 62 #[v, .int .i64 z] w fun e w' => ∃ v', e = .returned v' ∧ FileAt w' v' ⟨(f.firm ++ f.loose).take n, []⟩ ∧ Upd (fblocks v) w w' ∧ (∀ k, fblocks v' k → fblocks v k ∨ w.heap.size ≤ k) ∧ FileAt w' v f := by
  subst hz; exact first_any w v f n hf hn

def iCells (l : List Int) : List Value := l.map (Value.int .i64)
def isI64 (x : Int) : Prop := -9223372036854775808 ≤ x ∧ x ≤ 9223372036854775807

open Classical in
set_option maxRecDepth 100000 in
set_option maxHeartbeats 4000000 in
theorem Crash_any0 (w : World) (p m : Nat) (g : Value → Option Value) (d : ADisk) (vk : Value) (keeps : List Int) (h : DiskRep w p m g d) (hrd : Rd w vk (iCells keeps)) (hkl : keeps.length ≤ 9223372036854775807)
    (hki : ∀ x ∈ keeps, isI64 x) (hdis : ∀ k, vk.ownBlock = some k → keeps ≠ [] → ¬ dfp p m g k) :
    Calls Tryz.prog 22 #[.pointer (some ⟨p, 0, none⟩), vk] w fun e w' => e = .returned (.tuple #[]) ∧ DiskPost w p m g (d.crash keeps) w' := by
  obtain ⟨ak, ck, rfl⟩ := hrd.shape
  have hicl : (iCells keeps).length = keeps.length := by simp [iCells]
  rw [hicl] at hrd hdis ⊢
  have hwf := h.wf
  have hcount : d.fs.length ≤ 200 := hwf.count
  have hnl : d.names.length = d.fs.length := by simp [ADisk.names]
  go_enter Tryz.func22, Tryz.ntmps22
  go_wp2_with (go_at_call 34; refine (List_any w p m g d h).mono ?_; rw [hnl]; rintro e w1 ⟨a, c, rfl, hrow, hnil, hb1⟩)
  have Hrow := Lib.hid hrow
  have hdsz : ∀ k, dfp p m g k → k < w.heap.size := fun k hk => h.lt hk
  have h1 := h.below hb1
  clear hnil hrow hnl hicl
  go_loopw [11] (fun i wr => ∃ k : Nat, k ≤ d.fs.length ∧ i = .int .i64 k ∧ DiskPost w1 p m g { d with fs := crashK d.fs keeps k } wr) (fun i _ => d.fs.length - (intOf i).toNat)
  case atStart => exact ⟨0, by omega, rfl, DiskPost.same h1 (Below.refl _ _)⟩
  case round =>
    obtain ⟨k, hk, rfl, hpost⟩ := hrel
    have Hpost := Lib.hid hpost
    clear hpost
    by_cases hlt : k < d.fs.length
    · obtain ⟨gr, hrepr, hUr, hfpr⟩ := Hpost.out
      obtain ⟨gb, c', hv, hgb, hgl, hcells⟩ := row_cell Hrow.out k hlt
      cases hv
      have hcell := hcells k hlt
      have hnk : k < d.names.length := by simpa [ADisk.names] using hlt
      rw [List.getElem?_map, List.getElem?_eq_getElem hnk, Option.map_some] at hcell
      have hnmk : d.names[k] = d.fs[k].1 := by simp [ADisk.names]
      rw [hnmk] at hcell
      have hcr : wr.cell? ⟨gb, k, none⟩ = some (.string d.fs[k].1) := (hUr.cell hgl (fun hd => by have := hdsz _ hd; omega) k).trans hcell
      have hks : d.fs[k].1.size ≤ 40 := hwf.name_size (by rw [← hnmk]; exact List.getElem_mem _)
      have hlk : lk (crashK d.fs keeps k) d.fs[k].1 = some d.fs[k].2 := crashK_later hwf.sorted keeps k k (Nat.le_refl _) hlt
      have hwfk := hwf.crashK keeps (k + 1)
      have hsucc : crashK d.fs keeps (k + 1) = putF (crashK d.fs keeps k) d.fs[k].1 (d.fs[k].2.kept (keeps.getD k 0)) := by
        simp only [crashK]
        rw [List.getElem?_eq_getElem hlt]
      rw [hsucc] at hwfk
      have Hsucc := Lib.hid hsucc
      generalize hs : d.fs[k].1 = s at hcr hks hlk hwfk
      generalize hf : d.fs[k].2 = f at hlk hwfk
      have Hs := Lib.hid hs
      have Hf := Lib.hid hf
      have Hlk := Lib.hid hlk
      have hkey := key_of (s := s) (by simp only [maxLen]; omega)
      obtain ⟨v, hgv, hfile⟩ := hrepr.file s f hlk
      obtain ⟨q0, q1, q2, q3, z0, z1, z2, z3⟩ := cells4 hrepr.head
      obtain ⟨v1, v2, rfl, hr1, hr2, hap, hfl⟩ := id hfile
      obtain ⟨a1, c1, rfl, _⟩ := row_slice hr1
      obtain ⟨a2, c2, rfl, _⟩ := row_slice hr2
      have hmapr := hrepr.map
      have hgv' : (gr (.string s)).getD zFile = .agg #[.slice a1 f.firm.length c1, .slice a2 f.loose.length c2] := by rw [hgv]; rfl
      have Hgv := Lib.hid hgv'
      have Hgvs := Lib.hid hgv
      clear hs hf hlk hsucc hcell hcells hnmk hgv hgv'
      -- the number kept
      obtain ⟨x, hx⟩ : ∃ x, keeps.getD k 0 = x := ⟨_, rfl⟩
      rw [hx] at hwfk
      obtain ⟨kv, hkv⟩ : ∃ kv, (min (max x 0) (f.loose.length : Int)).toNat = kv := ⟨_, rfl⟩
      have hkvle : kv ≤ f.loose.length := by omega
      have hkept : f.kept x = ⟨(f.firm ++ f.loose).take (f.firm.length + kv), []⟩ := by rw [AFile.kept, hkv]
      rw [hkept] at hwfk
      have Hx := Lib.hid hx
      have Hkv := Lib.hid hkv
      have Hkept := Lib.hid hkept
      have hnk' : f.firm.length + kv ≤ f.len := by unfold AFile.len; omega
      have hboxW := alloc_at wr (.cells #[.slice a1 f.firm.length c1, .slice a2 f.loose.length c2] 95)
      have hrepW := hrepr.alloc (.cells #[.slice a1 f.firm.length c1, .slice a2 f.loose.length c2] 95)
      have hfileW := hfile.upd ((Upd.refl noFp wr).alloc (.cells #[.slice a1 f.firm.length c1, .slice a2 f.loose.length c2] 95)) (fun _ _ h => h)
      obtain ⟨x0, x1, _, _⟩ := cells2 hboxW
      have hL : ∀ j, dfp p m gr j → j < wr.heap.size := fun j hj => hrepr.lt hj
      have hLf : ∀ j, fblocks (.agg #[.slice a1 f.firm.length c1, .slice a2 f.loose.length c2]) j → dfp p m gr j := fun j hj => Or.inr (Or.inr ⟨s, _, Hgvs.out, hj⟩)
      have hkn : k < keeps.length ∨ (¬ k < keeps.length ∧ x = 0) := by
        by_cases hkk : k < keeps.length
        · exact Or.inl hkk
        · refine Or.inr ⟨hkk, ?_⟩
          rw [← hx, List.getD, List.getElem?_eq_none (by omega)]
          rfl
      have hxi : isI64 x := by
        rw [← hx]
        by_cases hkk : k < keeps.length
        · rw [List.getD, List.getElem?_eq_getElem hkk]; exact hki _ (List.getElem_mem _)
        · rw [List.getD, List.getElem?_eq_none (by omega)]; simp [isI64]
      unfold isI64 at hxi
      have hxc : k < keeps.length → ∃ kb ko, ak = some ⟨kb, ko, none⟩ ∧ wr.cell? ⟨kb, ko + k, none⟩ = some (.int .i64 x) := by
        intro hkk
        rcases hrd with ⟨_, he⟩ | ⟨kb, ko, n, cc, he, hn, hc⟩
        · have := congrArg List.length he
          simp [iCells] at this
          subst this
          simp at hkk
        · cases he
          have hcx := hc k (.int .i64 x) (by simp [iCells, ← hx, List.getD, List.getElem?_eq_getElem hkk])
          exact ⟨kb, ko, rfl, ((hUr.cell (by have := cell_lt hcx; have := hb1.size; omega) (hdis kb rfl (by intro e; rw [e] at hkk; simp at hkk)) _).trans ((hb1.cell (p := ⟨kb, ko + k, none⟩) (cell_lt hcx)))).trans hcx⟩
      clear hx hkv hkept
      rcases hkn with hkk | ⟨hkk, hx0⟩
      · obtain ⟨kb, ko, rfl, hxc'⟩ := hxc hkk
        clear hxc
        have hxW : (wr.alloc (.cells #[.slice a1 f.firm.length c1, .slice a2 f.loose.length c2] 95)).cell? ⟨kb, ko + k, none⟩ = some (.int .i64 x) := (((Upd.refl noFp wr).alloc _).cell (cell_lt hxc') (fun h => h) _).trans hxc'
        have hki1 : (k : Int) < (keeps.length : Int) := by omega
        go_wp2_with (at_lookup; refine wpList_map_lookup rfl (.tmp 19) (.tmp 20) 84 9 95 rfl Tryz.underlying84 keyed m _ gr hmapr rfl _ rfl _ hkey zFile zero_file _ Hgv.out ?_)
        refine wp_region_reads (by kernel_rfl) (by kernel_rfl) ?_
        repeat still_step
        refine wpStill_nil ?_
        generalize hWd : (wr.alloc (Obj.cells #[.slice a1 f.firm.length c1, .slice a2 f.loose.length c2] 95)).drew = W
        have hUW : Upd noFp wr W := by rw [← hWd]; exact ((Upd.refl noFp wr).alloc _).drew
        have hsW : W.heap.size = wr.heap.size + 1 := by rw [← hWd]; simp
        have hrepD : DiskRep W.drew p m gr { d with fs := crashK d.fs keeps k } := (by rw [← hWd]; exact hrepW.drew.drew)
        have hfileD : FileAt W.drew (.agg #[.slice a1 f.firm.length c1, .slice a2 f.loose.length c2]) f := (hfile.upd hUW (fun _ _ h => h)).upd ((Upd.refl noFp W).drew) (fun _ _ h => h)
        have hbW : W.heap[wr.heap.size]? = some (.cells #[.slice a1 f.firm.length c1, .slice a2 f.loose.length c2] 95 (0, 0)) := by rw [← hWd]; exact alloc_at wr _
        have hLW : wr.heap.size < W.drew.heap.size := by show wr.heap.size < W.heap.size; omega
        clear hWd x0 x1 q2 hboxW hrepW hfileW hxW
        have q2W : W.cell? ⟨p, 2, none⟩ = some (.map (some m)) := (cells4 hrepD.head).2.2.1
        obtain ⟨x0, x1, _, _⟩ := cells2 hbW
        go_wp2
        have hw6 : IntKind.i64.wrap ((f.firm.length : Int) + min (max x 0) (f.loose.length : Int)) = (f.firm.length : Int) + min (max x 0) (f.loose.length : Int) := IntWalk.i64_in _ (by unfold AFile.len at hfl; omega)
        have hz6 : (f.firm.length : Int) + min (max x 0) (f.loose.length : Int) = ((f.firm.length + kv : Nat) : Int) := by have := Hkv.out; omega
        have Hz6 := Lib.hid hz6
        clear hz6
        go_region_held3 (fun w' => w'.cell? ⟨p, 2, none⟩ = some (.map (some m)) ∧ w'.cell? ⟨wr.heap.size, 0, none⟩ = some (.slice a1 f.firm.length c1) ∧ w'.cell? ⟨wr.heap.size, 1, none⟩ = some (.slice a2 f.loose.length c2)) (first | exact ⟨q2W, x0, x1⟩ | exact S3 | exact S4 | go_keep)
          (first
            | (go_at_call 62; refine (first_int _ _ f _ (f.firm.length + kv) Hz6.out hfileD hnk').mono ?_; rintro e w3 ⟨v', rfl, hv3, hU3, hfp3, hold3⟩; have hrep3 := hrepD.touch Hgv.out hU3 (fun j _ hj => hj) (by rw [show afile _ s = f from by simp [afile, Hlk.out]]; exact hold3); have S3 : w3.cell? ⟨p, 2, none⟩ = some (.map (some m)) ∧ w3.cell? ⟨wr.heap.size, 0, none⟩ = some (.slice a1 f.firm.length c1) ∧ w3.cell? ⟨wr.heap.size, 1, none⟩ = some (.slice a2 f.loose.length c2) := ⟨(cells4 hrep3.head).2.2.1, (hU3.cell hLW (fun hk => by have := hL _ (hLf _ hk); omega) 0).trans x0, (hU3.cell hLW (fun hk => by have := hL _ (hLf _ hk); omega) 1).trans x1⟩; obtain ⟨w4, hrun4, hm4, hg4, hs4⟩ := hrep3.map.run_update keyed Tryz.underlying84 hkey (val := v') (by have hc := hrep3.wf.count; simp only [maxLen]; exact Nat.lt_of_le_of_lt hc (by omega)); have hU4 : Upd (· = m) w3 w4 := (Upd.refl _ _).grown hg4 (fun j hj => by cases hj; exact Or.inl rfl); have S4 : w4.cell? ⟨p, 2, none⟩ = some (.map (some m)) ∧ w4.cell? ⟨wr.heap.size, 0, none⟩ = some (.slice a1 f.firm.length c1) ∧ w4.cell? ⟨wr.heap.size, 1, none⟩ = some (.slice a2 f.loose.length c2) := ⟨(hU4.cell (blk_lt hrep3.head) (hrep3.p_ne_m) 2).trans S3.1, (hU4.cell (by have := hU3.size; omega) (fun e => by have := hrepr.map.lt; omega) 0).trans S3.2.1, (hU4.cell (by have := hU3.size; omega) (fun e => by have := hrepr.map.lt; omega) 1).trans S3.2.2⟩; have Hm4 := Lib.hid hm4; clear hm4))
        go_wp2
        go_roundw
        case rel =>
          refine ⟨k + 1, by omega, by go_num, ?_⟩
          have hsU3 := hU3.size
          have hsUr := hUr.size
          have hblk3 : ∀ j, fblocks v' j → dfp p m gr j → ∃ u, gr (.string s) = some u ∧ fblocks u j := by
            intro j hj hdj
            rcases hfp3 j hj with h1 | h1
            · exact ⟨_, Hgvs.out, h1⟩
            · have := hL j hdj; omega
          have hrep4 := hrep3.stored (s := s) (f := ⟨(f.firm ++ f.loose).take (f.firm.length + kv), []⟩) hv3 hblk3 Hm4.out hg4 (by rw [length_putF hrep3.wf.sorted]; obtain ⟨_, _, _, _, _, _, _, hb⟩ := hrep3.fileAgg s; simp only [hb]) hwfk
          have e1 : crashK d.fs keeps (k + 1) = putF (crashK d.fs keeps k) s ⟨(f.firm ++ f.loose).take (f.firm.length + kv), []⟩ := by
            rw [Hsucc.out, Hs.out, Hf.out, Hx.out, Hkept.out]
          rw [e1]
          refine ⟨_, hrep4, ((hUr.trans hUW (fun j hj => hj.elim)).drew.trans hU3 (fun j hj => hfpr j (hLf j hj))).trans hU4 (fun j hj => Or.inl (Or.inr (Or.inl hj))), fun j hj => ?_⟩
          rcases hj with hj | hj | ⟨t, u, hu, hju⟩
          · exact Or.inl (Or.inl hj)
          · exact Or.inl (Or.inr (Or.inl hj))
          · replace hu : (if Value.string t = Value.string s then some v' else gr (.string t)) = some u := hu
            split at hu
            · cases hu
              rcases hfp3 j hju with h1 | h1
              · exact hfpr j (hLf j h1)
              · exact Or.inr (by have := hUW.size; change W.heap.size ≤ _ at h1; omega)
            · exact hfpr j (Or.inr (Or.inr ⟨t, u, hu, hju⟩))
        case measure => simp [intOf]; omega
      · clear hxc
        have hki1 : ¬ (k : Int) < (keeps.length : Int) := by omega
        go_wp2_with (at_lookup; refine wpList_map_lookup rfl (.tmp 19) (.tmp 20) 84 9 95 rfl Tryz.underlying84 keyed m _ gr hmapr rfl _ rfl _ hkey zFile zero_file _ Hgv.out ?_)
        generalize hWd : wr.alloc (Obj.cells #[.slice a1 f.firm.length c1, .slice a2 f.loose.length c2] 95) = W
        have hUW : Upd noFp wr W := by rw [← hWd]; exact (Upd.refl noFp wr).alloc _
        have hsW : W.heap.size = wr.heap.size + 1 := by rw [← hWd]; simp
        have hrepD : DiskRep W.drew p m gr { d with fs := crashK d.fs keeps k } := (by rw [← hWd]; exact hrepW.drew)
        have hfileD : FileAt W.drew (.agg #[.slice a1 f.firm.length c1, .slice a2 f.loose.length c2]) f := (hfile.upd hUW (fun _ _ h => h)).upd ((Upd.refl noFp W).drew) (fun _ _ h => h)
        have hbW : W.heap[wr.heap.size]? = some (.cells #[.slice a1 f.firm.length c1, .slice a2 f.loose.length c2] 95 (0, 0)) := by rw [← hWd]; exact alloc_at wr _
        have hLW : wr.heap.size < W.drew.heap.size := by show wr.heap.size < W.heap.size; omega
        clear hWd x0 x1 q2 hboxW hrepW hfileW
        have q2W : W.cell? ⟨p, 2, none⟩ = some (.map (some m)) := (cells4 hrepD.head).2.2.1
        obtain ⟨x0, x1, _, _⟩ := cells2 hbW
        have hw6 : IntKind.i64.wrap (f.firm.length : Int) = (f.firm.length : Int) := IntWalk.i64_in _ (by unfold AFile.len at hfl; omega)
        have hz6 : (f.firm.length : Int) = ((f.firm.length + kv : Nat) : Int) := by have := Hkv.out; omega
        have Hz6 := Lib.hid hz6
        clear hz6
        go_region_held3 (fun w' => w'.cell? ⟨p, 2, none⟩ = some (.map (some m)) ∧ w'.cell? ⟨wr.heap.size, 0, none⟩ = some (.slice a1 f.firm.length c1) ∧ w'.cell? ⟨wr.heap.size, 1, none⟩ = some (.slice a2 f.loose.length c2)) (first | exact ⟨q2W, x0, x1⟩ | exact S3 | exact S4 | go_keep)
          (first
            | (go_at_call 62; refine (first_int _ _ f _ (f.firm.length + kv) Hz6.out hfileD hnk').mono ?_; rintro e w3 ⟨v', rfl, hv3, hU3, hfp3, hold3⟩; have hrep3 := hrepD.touch Hgv.out hU3 (fun j _ hj => hj) (by rw [show afile _ s = f from by simp [afile, Hlk.out]]; exact hold3); have S3 : w3.cell? ⟨p, 2, none⟩ = some (.map (some m)) ∧ w3.cell? ⟨wr.heap.size, 0, none⟩ = some (.slice a1 f.firm.length c1) ∧ w3.cell? ⟨wr.heap.size, 1, none⟩ = some (.slice a2 f.loose.length c2) := ⟨(cells4 hrep3.head).2.2.1, (hU3.cell hLW (fun hk => by have := hL _ (hLf _ hk); omega) 0).trans x0, (hU3.cell hLW (fun hk => by have := hL _ (hLf _ hk); omega) 1).trans x1⟩; obtain ⟨w4, hrun4, hm4, hg4, hs4⟩ := hrep3.map.run_update keyed Tryz.underlying84 hkey (val := v') (by have hc := hrep3.wf.count; simp only [maxLen]; exact Nat.lt_of_le_of_lt hc (by omega)); have hU4 : Upd (· = m) w3 w4 := (Upd.refl _ _).grown hg4 (fun j hj => by cases hj; exact Or.inl rfl); have S4 : w4.cell? ⟨p, 2, none⟩ = some (.map (some m)) ∧ w4.cell? ⟨wr.heap.size, 0, none⟩ = some (.slice a1 f.firm.length c1) ∧ w4.cell? ⟨wr.heap.size, 1, none⟩ = some (.slice a2 f.loose.length c2) := ⟨(hU4.cell (blk_lt hrep3.head) (hrep3.p_ne_m) 2).trans S3.1, (hU4.cell (by have := hU3.size; omega) (fun e => by have := hrepr.map.lt; omega) 0).trans S3.2.1, (hU4.cell (by have := hU3.size; omega) (fun e => by have := hrepr.map.lt; omega) 1).trans S3.2.2⟩; have Hm4 := Lib.hid hm4; clear hm4))
        go_wp2
        go_roundw
        case rel =>
          refine ⟨k + 1, by omega, by go_num, ?_⟩
          have hsU3 := hU3.size
          have hsUr := hUr.size
          have hblk3 : ∀ j, fblocks v' j → dfp p m gr j → ∃ u, gr (.string s) = some u ∧ fblocks u j := by
            intro j hj hdj
            rcases hfp3 j hj with h1 | h1
            · exact ⟨_, Hgvs.out, h1⟩
            · have := hL j hdj; omega
          have hrep4 := hrep3.stored (s := s) (f := ⟨(f.firm ++ f.loose).take (f.firm.length + kv), []⟩) hv3 hblk3 Hm4.out hg4 (by rw [length_putF hrep3.wf.sorted]; obtain ⟨_, _, _, _, _, _, _, hb⟩ := hrep3.fileAgg s; simp only [hb]) hwfk
          have e1 : crashK d.fs keeps (k + 1) = putF (crashK d.fs keeps k) s ⟨(f.firm ++ f.loose).take (f.firm.length + kv), []⟩ := by
            rw [Hsucc.out, Hs.out, Hf.out, Hx.out, Hkept.out]
          rw [e1]
          refine ⟨_, hrep4, ((hUr.trans hUW (fun j hj => hj.elim)).drew.trans hU3 (fun j hj => hfpr j (hLf j hj))).trans hU4 (fun j hj => Or.inl (Or.inr (Or.inl hj))), fun j hj => ?_⟩
          rcases hj with hj | hj | ⟨t, u, hu, hju⟩
          · exact Or.inl (Or.inl hj)
          · exact Or.inl (Or.inr (Or.inl hj))
          · replace hu : (if Value.string t = Value.string s then some v' else gr (.string t)) = some u := hu
            split at hu
            · cases hu
              rcases hfp3 j hju with h1 | h1
              · exact hfpr j (hLf j h1)
              · exact Or.inr (by have := hUW.size; change W.heap.size ≤ _ at h1; omega)
            · exact hfpr j (Or.inr (Or.inr ⟨t, u, hu, hju⟩))
        case measure => simp [intOf]; omega
    · obtain rfl : k = d.fs.length := by omega
      obtain ⟨gr, hrepr, hUr, hfpr⟩ := Hpost.out
      obtain ⟨q0, q1, q2, q3, z0, z1, z2, z3⟩ := cells4 hrepr.head
      have hfin := hrepr.power (l := -1) (b := false) (setCell2_upd (w := wr) (b := p) (.int .i64 (-1)) (.bool false)) (by rw [setCell_at (setCell_at hrepr.head 0 _) 1 _]; rfl) { hrepr.wf with left0 := by simp, left1 := by simp }
      have hu := setCell2_upd (w := wr) (b := p) (.int .i64 (-1)) (.bool false)
      have Hfin := Lib.hid hfin
      have Hu := Lib.hid hu
      clear hfin hu
      go_wp2
      go_end0
      refine ⟨rfl, gr, Hfin.out, ((Upd.ofBelow hb1).trans hUr (fun j hj => Or.inl hj)).trans Hu.out (fun j hj => Or.inl (Or.inl hj)), fun j hj => ?_⟩
      have := hb1.size
      rcases hfpr j hj with h1 | h1
      · exact Or.inl h1
      · exact Or.inr (by omega)
theorem Crash_any (w : World) (p m : Nat) (g : Value → Option Value) (d : ADisk) (vk : Value) (keeps : List Int) (h : DiskRep w p m g d) (hrd : Rd w vk (iCells keeps)) (hkl : keeps.length ≤ 9223372036854775807)
    (hki : ∀ x ∈ keeps, isI64 x) (hdis : ∀ k, vk.ownBlock = some k → ¬ dfp p m g k) :
    Calls Tryz.prog 22 #[.pointer (some ⟨p, 0, none⟩), vk] w fun e w' => e = .returned (.tuple #[]) ∧ DiskPost w p m g (d.crash keeps) w' :=
  Crash_any0 w p m g d vk keeps h hrd hkl hki fun k hk _ => hdis k hk
end Go.Proofs.YtnagejhpdhdpfaaGreatDoor
