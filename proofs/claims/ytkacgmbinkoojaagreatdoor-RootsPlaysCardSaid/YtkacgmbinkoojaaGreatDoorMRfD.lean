/-
  The document's disk: Crash, plainly.
-/
import Derived.Outline
import Derived.Test.YtkacgmbinkoojaaGreatDoorMRfB
import Derived.Test.YtkacgmbinkoojaaGreatDoorMDkB
import Derived.Deep.RegionLaw
import Derived.Deep.CutRange
import Derived.Deep.CutBlock
import Derived.IntWalk
import Derived.Deep.RegionHeld3
import Derived.Test.YtkacgmbinkoojaaGreatDoorMLoA
namespace Go.Proofs.YtkacgmbinkoojaaGreatDoor
open Go.RowKit Go.Maps Go.MapKept

theorem putF_mid (A : List (ByteArray × AFile)) (s : ByteArray) (f0 f : AFile) (R : List (ByteArray × AFile)) (h : ∀ p ∈ A, ltS p.1 s = true) : putF (A ++ (s, f0) :: R) s f = A ++ (s, f) :: R := by
  induction A with
  | nil => simp [putF]
  | cons p A ih =>
    have hp := h p (by simp)
    simp only [List.cons_append, putF]
    rw [if_neg (ltS_ne hp), if_neg (by rw [ltS_asymm hp]; simp), ih (fun q hq => h q (List.mem_cons_of_mem _ hq))]
/-- the first k files as they are behind a crash. -/
def crashE (fs : List (ByteArray × AFile)) (keeps : List Int) (k : Nat) : List (ByteArray × AFile) := (fs.take k).mapIdx fun i q => (q.1, q.2.kept (keeps.getD i 0))
theorem crashE_succ (fs : List (ByteArray × AFile)) (keeps : List Int) (k : Nat) (hk : k < fs.length) : crashE fs keeps (k + 1) = crashE fs keeps k ++ [(fs[k].1, fs[k].2.kept (keeps.getD k 0))] := by
  unfold crashE
  rw [List.take_succ_eq_append_getElem hk, List.mapIdx_append]
  simp [Nat.min_eq_left (Nat.le_of_lt hk)]
theorem crashK_parts {fs : List (ByteArray × AFile)} (hs : SortedF fs) (keeps : List Int) (k : Nat) (hk : k ≤ fs.length) : crashK fs keeps k = crashE fs keeps k ++ fs.drop k := by
  induction k with
  | zero => simp [crashK, crashE]
  | succ k ih =>
    have hlt : k < fs.length := hk
    simp only [crashK]
    rw [List.getElem?_eq_getElem hlt, ih (by omega), crashE_succ _ _ _ hlt, List.drop_eq_getElem_cons hlt]
    simp only
    rw [putF_mid]
    · simp
    · intro p hp
      unfold crashE at hp
      obtain ⟨i, hi, rfl⟩ := List.mem_mapIdx.1 hp
      simp only [List.length_take] at hi
      rw [List.getElem_take]
      exact List.pairwise_iff_getElem.1 hs i k (by omega) hlt (by omega)
theorem crash_fs {d : ADisk} (h : d.WF) (keeps : List Int) : (d.crash keeps).fs = crashE d.fs keeps d.fs.length := by
  show crashK d.fs keeps d.fs.length = _
  rw [crashK_parts h.sorted keeps _ (Nat.le_refl _)]
  simp
/-- how many bytes are left. -/
def keptN (f : AFile) (x : Int) : Nat := f.firm.length + (min (max x 0) f.loose.length).toNat
theorem kept_eq (f : AFile) (x : Int) : f.kept x = ⟨(f.firm ++ f.loose).take (keptN f x), []⟩ := rfl
theorem keptN_le (f : AFile) (x : Int) : keptN f x ≤ f.firm.length + f.loose.length := by unfold keptN; omega
theorem keptN_all {f : AFile} {x : Int} (h : (f.loose.length : Int) ≤ x) : keptN f x = f.firm.length + f.loose.length := by unfold keptN; omega
theorem keptN_some {f : AFile} {x : Int} (h : x < f.loose.length) (h0 : 0 < x) : (keptN f x : Int) = f.firm.length + x := by unfold keptN; omega
theorem keptN_none {f : AFile} {x : Int} (h0 : x ≤ 0) : keptN f x = f.firm.length := by unfold keptN; omega
end Go.Proofs.YtkacgmbinkoojaaGreatDoor

/-
  The document's disk: Crash.
-/
namespace Go.Proofs.YtkacgmbinkoojaaGreatDoor
open Go.RowKit Go.Maps Go.MapKept
variable {X : Nat → Prop}

set_option linter.unusedSimpArgs false
/-- a row of files that is made, apart from their bytes. -/
structure CrashRow (X : Nat → Prop) (base : Nat) (w : World) (a : Option Addr) (k c : Nat) (xs : List REnt) : Prop where
  own : w.ownsRow base 82 3 (.slice a k c) k (flatR xs)
  len : k = xs.length
  ok : ∀ x ∈ xs, x.ok X w ∧ ∀ g, x.v.ownBlock = some g → base ≤ g ∧ g < w.heap.size ∧ (Value.slice a k c).ownBlock ≠ some g

theorem CrashRow.next {base T : Nat} {wr w8 w9 w10 : World} {a1 : Option Addr} {k c1 : Nat} {xs : List REnt} {e8 : REnt} {a8 N g cap : Nat} (hC : CrashRow X base wr a1 k c1 xs) (hb8 : Below wr.heap.size wr w8) (hU9 : Upd (fun j => (Value.slice a1 k c1).ownBlock = some j) w8 w9)
    (hU10 : Upd (fun j => j = T) w9 w10) (hT : T < base) (hbase : base ≤ wr.heap.size) (hown : w9.ownsRow base 82 3 (.slice (some ⟨g, 0, none⟩) (k + 1) cap) (xs ++ [e8]).length (flatR (xs ++ [e8]))) (hat : (Value.slice a1 k c1).ownBlock = some g ∨ g = w8.heap.size)
    (hv : e8.v = .slice (some ⟨a8, 0, none⟩) N N) (ha8 : wr.heap.size ≤ a8) (ha8' : a8 < w8.heap.size) (hok8 : e8.ok X w8) : CrashRow X base w10 (some ⟨g, 0, none⟩) (k + 1) cap (xs ++ [e8]) := by
  have hl : k + 1 = (xs ++ [e8]).length := by rw [List.length_append, ← hC.len]; rfl
  have hownlt : ∀ j, (Value.slice a1 k c1).ownBlock = some j → base ≤ j ∧ j < wr.heap.size := fun j hj => hC.own.lt j hj
  have hs8 := hb8.size
  have hs9 := hU9.size
  have hs10 := hU10.size
  refine ⟨?_, hl, fun x hx => ?_⟩
  · have := hU10.row hown (fun j hj e => by have := (hown.lt j hj).1; omega)
    rw [hl]
    rw [hl] at this
    exact this
  · have key : x.ok X w8 ∧ ∀ j, x.v.ownBlock = some j → base ≤ j ∧ j < w8.heap.size ∧ (Value.slice a1 k c1).ownBlock ≠ some j := by
      rcases List.mem_append.1 hx with hx | hx
      · obtain ⟨h1, h2⟩ := hC.ok x hx
        exact ⟨h1.below hb8, fun j hj => by obtain ⟨p1, p2, p3⟩ := h2 j hj; exact ⟨p1, by omega, p3⟩⟩
      · rw [List.mem_singleton.1 hx]
        refine ⟨hok8, fun j hj => ?_⟩
        rw [hv] at hj
        have hj' : a8 = j := by simpa [Value.ownBlock] using hj
        subst hj'
        exact ⟨by omega, ha8', fun e => by have := (hownlt _ e).2; omega⟩
    obtain ⟨k1, k2⟩ := key
    refine ⟨?_, fun j hj => ?_⟩
    · have h9 : x.ok X w9 := ⟨Rd.upd k1.1 hU9 (fun j hj => ⟨(k2 j hj).2.1, (k2 j hj).2.2⟩), k1.2⟩
      exact ⟨Rd.upd h9.1 hU10 (fun j hj => ⟨by have := (k2 j hj).2.1; omega, fun e => by have := (k2 j hj).1; omega⟩), h9.2⟩
    · obtain ⟨p1, p2, p3⟩ := k2 j hj
      refine ⟨p1, by omega, fun e => ?_⟩
      have e' : g = j := by simpa [Value.ownBlock] using e
      subst e'
      rcases hat with e | e
      · exact p3 e
      · omega

/-- one file more, at a step of a region that draws. -/
theorem step_append_file {w : World} {ops : Array Oper} {o : Oper} {a : Act} {K : Act → World → Prop} {Q : Exit → Act → World → Prop} {E : Prop} (hgd : o.guard = none) (s x : Operand)
    (ho : o.op = .call { callee := .builtin .append, args := #[s, x], argTypes := #[27, 27] })
    (base : Nat) (v : Value) (xs : List REnt) (e : REnt) (B m c : Nat) (hm : m = 1) (hs : a.eval s = v) (hown : w.ownsRow base 82 3 v xs.length (flatR xs)) (hx : a.eval x = .slice (some ⟨B, 0, none⟩) m c) (hB : w.heap[B]? = some (.cells ⟨e.cells⟩ 82))
    (h1 : e.v.oneCell' = true) (hl : xs.length ≤ 100000) (hbase : base ≤ w.heap.size) (n' : Nat) (hn' : xs.length + m = n') (H : Nat) (hH : w.heap.size = H)
    (h : ∀ g cap w', w'.ownsRow base 82 3 (.slice (some ⟨g, 0, none⟩) n' cap) (xs ++ [e]).length (flatR (xs ++ [e])) → w.grownBy w' v.ownBlock → (v.ownBlock = some g ∨ g = H) → K (a.put o.dst (.slice (some ⟨g, 0, none⟩) n' cap)) w') :
    if Region.wanted o (yielded ops a.tmps) = true then Oper.wp Tryz.prog o a w K Q else E := by
  subst hm hn'
  obtain ⟨i0, hi, hz0, hz1, hz2⟩ := info_parts info_RFile
  refine step_append_lies (P := Tryz.prog) _ hgd s x 27 ho base 82 i0 (.agg #[.string ⟨#[]⟩, .slice none 0 0, .int .i64 0]) 3 48 Tryz.underlying27 hi hz0 hz1 hz2 rfl (by omega) v xs.length (flatR xs) hs hown ⟨B, 0, none⟩ 1 c e.cells hx rfl (World.news_of_block hB) ?_ (by omega) (by simp only [maxLen]; omega) (by omega) hbase H hH ?_
  · intro u hu
    simp only [REnt.cells, List.mem_cons, List.not_mem_nil, or_false] at hu
    rcases hu with rfl | rfl | rfl
    · rfl
    · exact h1
    · rfl
  · intro g cap w' h2 h3 h4 _
    refine h g cap w' ?_ h3 h4
    rw [flatR_append, flatR_one, List.length_append]
    exact h2

set_option maxRecDepth 100000 in
set_option maxHeartbeats 4000000 in
theorem refCrash_any (w : World) (a : Option Addr) (n c : Nat) (d : ADisk) (vk : Value) (keeps : List Int) (h : RefAt X w a n c d) (hw : d.WF) (hX : NewOk X w) (hrk : Rd w vk (iCells keeps)) (hki : ∀ x ∈ keeps, isI64 x) :
    Calls Tryz.prog 14 #[refVal a n c d, vk] w fun e w' => ∃ a' n' c', e = .returned (refVal a' n' c' (d.crash keeps)) ∧ RefAt X w' a' n' c' (d.crash keeps) ∧ Below w.heap.size w w' := by
  have hcfs := crash_fs hw keeps
  have hlenF : ∀ k (hk : k < d.fs.length), d.fs[k].2.firm.length + d.fs[k].2.loose.length ≤ 16777216 := fun k hk => by
    have h1 := lk_len_le (mem_lk hw.sorted (f := d.fs[k].2) (s := d.fs[k].1) (List.getElem_mem hk))
    have h2 := hw.used
    have h3 := hw.most1
    unfold AFile.len at h1
    omega
  obtain ⟨es, hes, hok, hat⟩ := h.ents
  have hcnt := hw.count
  have hn : n = es.length := by rw [h.len, ← hes, List.length_map]
  subst hn
  have hcnt' : es.length ≤ 200 := by rw [← hes, List.length_map] at hcnt; exact hcnt
  obtain ⟨ak, ck, rfl⟩ := hrk.shape
  have hicl : (iCells keeps).length = keeps.length := by simp [iCells]
  rw [hicl] at hrk ⊢
  have hdc : d.crash keeps = ⟨d.most, -1, false, crashE d.fs keeps d.fs.length⟩ := by rw [← hcfs]; rfl
  rw [hdc]
  obtain ⟨most, left, down, fs⟩ := d
  simp only at hes hlenF hcnt ⊢
  unfold refVal
  simp only
  have Hes := Lib.hid hes
  have Hok := Lib.hid hok
  have HlenF := Lib.hid hlenF
  clear hes hok h hw hcnt hdc hcfs hlenF hicl
  go_enter Tryz.func14, Tryz.ntmps14
  go_wp2_with fail
  have hD := alloc_old (alloc2_at0 w (.cells #[.int .i64 most, .slice a es.length c, .int .i64 left, .bool down] 29) (.cells #[.int .i64 0, .slice none 0 0, .int .i64 0, .bool false] 29)) (.cells #[.int .i64 most, .slice none 0 0, .int .i64 (-1), .bool false] 29)
  have hR := alloc_old (alloc2_at w (.cells #[.int .i64 most, .slice a es.length c, .int .i64 left, .bool down] 29) (.cells #[.int .i64 0, .slice none 0 0, .int .i64 0, .bool false] 29)) (.cells #[.int .i64 most, .slice none 0 0, .int .i64 (-1), .bool false] 29)
  have hT := alloc_at ((w.alloc (.cells #[.int .i64 most, .slice a es.length c, .int .i64 left, .bool down] 29)).alloc (.cells #[.int .i64 0, .slice none 0 0, .int .i64 0, .bool false] 29)) (.cells #[.int .i64 most, .slice none 0 0, .int .i64 (-1), .bool false] 29)
  have hB : Below w.heap.size w (((w.alloc (.cells #[.int .i64 most, .slice a es.length c, .int .i64 left, .bool down] 29)).alloc (.cells #[.int .i64 0, .slice none 0 0, .int .i64 0, .bool false] 29)).alloc (.cells #[.int .i64 most, .slice none 0 0, .int .i64 (-1), .bool false] 29)) := (((Below.refl _ _).alloc (Nat.le_refl _) _).alloc (by simp) _).alloc (by simp; omega) _
  have hsz : (((w.alloc (.cells #[.int .i64 most, .slice a es.length c, .int .i64 left, .bool down] 29)).alloc (.cells #[.int .i64 0, .slice none 0 0, .int .i64 0, .bool false] 29)).heap.size) = w.heap.size + 1 + 1 := by simp
  rw [hsz] at hT
  clear hsz
  obtain ⟨W, hW⟩ : ∃ W, ((w.alloc (.cells #[.int .i64 most, .slice a es.length c, .int .i64 left, .bool down] 29)).alloc (.cells #[.int .i64 0, .slice none 0 0, .int .i64 0, .bool false] 29)).alloc (.cells #[.int .i64 most, .slice none 0 0, .int .i64 (-1), .bool false] 29) = W := ⟨_, rfl⟩
  rw [hW] at hD hR hT hB ⊢
  clear hW
  go_loopw [6] (fun i wr => ∃ (k : Nat) (a1 : Option Addr) (c1 : Nat) (xs : List REnt), k ≤ es.length ∧ i = .int .i64 k ∧ CrashRow X (w.heap.size + 3) wr a1 k c1 xs ∧ xs.map REnt.plain = crashE fs keeps k ∧
      wr.heap[w.heap.size]? = some (.cells #[.int .i64 most, .slice a es.length c, .int .i64 left, .bool down] 29) ∧ wr.heap[w.heap.size + 1]? = some (.cells #[.int .i64 0, .slice none 0 0, .int .i64 0, .bool false] 29) ∧ wr.heap[w.heap.size + 1 + 1]? = some (.cells #[.int .i64 most, .slice a1 k c1, .int .i64 (-1), .bool false] 29) ∧ Below w.heap.size w wr) (fun i _ => es.length - (intOf i).toNat)
  case atStart => exact ⟨0, none, 0, [], by omega, rfl, ⟨World.ownsRow_nil _ _ _ _, rfl, fun x hx => by cases hx⟩, by simp [crashE], hD, hR, hT, hB⟩
  case round =>
    obtain ⟨k, a1, c1, xs, hk, rfl, hC, hxs, hDr, hRr, hTr, hbr⟩ := hrel
    clear hD hR hT hB
    have Hxs := Lib.hid hxs
    clear hxs
    obtain ⟨x0, x1, x2, x3, x4, x5, x6, x7⟩ := cells4 hDr
    obtain ⟨t0, t1, t2, t3, t4, t5, t6, t7⟩ := cells4 hTr
    obtain ⟨r0, r1, r2, r3, r4, r5, r6, r7⟩ := cells4 hRr
    have hTl := blk_lt hTr
    by_cases hlt : k < es.length
    · obtain ⟨b, off, rfl, hc⟩ := hat k hlt
      have hcc : ∀ j u, es[k].cells[j]? = some u → wr.cell? ⟨b, off + k * 3 + j, none⟩ = some u := fun j u hu => (hbr.cell (p := ⟨b, off + k * 3 + j, none⟩) (cell_lt (hc j u hu))).trans (hc j u hu)
      have hoky := Hok.out es[k] (List.getElem_mem hlt)
      have hfk : fs[k]? = some (es[k].name, es[k].f) := by rw [← Hes.out, List.getElem?_map, List.getElem?_eq_getElem hlt]; rfl
      obtain ⟨y, hy⟩ : ∃ y, es[k] = y := ⟨_, rfl⟩
      rw [hy] at hcc hoky hfk
      obtain ⟨nm, vb, f⟩ := y
      have hokb : Rd w vb (bcells (f.firm ++ f.loose)) := hoky.1
      clear hoky
      obtain ⟨avb, cvb, rfl⟩ := hokb.shape
      rw [bcells_length, List.length_append] at hokb hcc
      have c0 := hcc 0 _ rfl
      rw [Nat.add_zero] at c0
      have c1' := hcc 1 _ rfl
      have c2' := hcc 2 _ rfl
      obtain ⟨hkf, hfe⟩ := List.getElem?_eq_some_iff.1 hfk
      have hfl := HlenF.out k hkf
      have hsucc := crashE_succ fs keeps k hkf
      rw [hfe] at hfl hsucc
      simp only at hfl hsucc
      have Hsucc := Lib.hid hsucc
      clear hsucc hfk hfe hcc
      have hbl := cell_lt c0
      go_upto_region 7 with fail
      have hNX := hX
      have hX := alloc_at wr (.cells #[.string nm, .slice avb (f.firm.length + f.loose.length) cvb, .int .i64 (f.firm.length : Nat)] 82)
      have hbX : Below wr.heap.size wr (wr.alloc (.cells #[.string nm, .slice avb (f.firm.length + f.loose.length) cvb, .int .i64 (f.firm.length : Nat)] 82)) := (Below.refl _ _).alloc (Nat.le_refl _) _
      have hsX : (wr.alloc (.cells #[.string nm, .slice avb (f.firm.length + f.loose.length) cvb, .int .i64 (f.firm.length : Nat)] 82)).heap.size = wr.heap.size + 1 := by simp
      obtain ⟨w6, hw6⟩ : ∃ w6, wr.alloc (.cells #[.string nm, .slice avb (f.firm.length + f.loose.length) cvb, .int .i64 (f.firm.length : Nat)] 82) = w6 := ⟨_, rfl⟩
      rw [hw6] at hX hbX hsX ⊢
      clear hw6
      have hb6 := hbr.trans (hbX.mono hbr.size)
      obtain ⟨f0, f1, f2, f3, f4, f5⟩ := cells3 hX
      have hwr : IntKind.i64.wrap (((f.firm.length : Int) + (f.loose.length : Int)) - (f.firm.length : Int)) = (f.loose.length : Int) := by rw [show ((f.firm.length : Int) + (f.loose.length : Int)) - (f.firm.length : Int) = (f.loose.length : Int) by omega]; exact IntWalk.i64_in _ (by omega)
      go_cut [41] from 26 to 73 (fun t wx => t = .bool (decide (k < keeps.length ∧ (f.loose.length : Int) ≤ keeps.getD k 0)) ∧ wx = w6.drew)
      case first =>
        by_cases hkk : k < keeps.length
        · obtain ⟨bk, ok, rfl, ek⟩ := hrk.at k (by rw [iCells_length]; exact hkk)
          simp only [iCells, List.getElem_map] at ek
          have ek6 := (hb6.cell (p := ⟨bk, ok + k, none⟩) (cell_lt ek)).trans ek
          have hg : keeps.getD k 0 = keeps[k] := by rw [List.getD_eq_getElem?_getD, List.getElem?_eq_getElem hkk]; rfl
          have hix := hki _ (List.getElem_mem hkk)
          obtain ⟨x, hx⟩ : ∃ x, keeps[k] = x := ⟨_, rfl⟩
          rw [hx] at ek6 hix hg
          have Hg := Lib.hid hg
          clear hx hg ek
          unfold isI64 at hix
          by_cases h1 : (f.loose.length : Int) ≤ x
          · refine wp_region_reads (by kernel_rfl) (by kernel_rfl) ?_
            repeat still_step
            refine wpStill_nil ?_
            go_wp2_with fail
            go_meet
            case rel => exact ⟨by rw [Hg.out]; simp [hkk, h1], rfl⟩
          · refine wp_region_reads (by kernel_rfl) (by kernel_rfl) ?_
            repeat still_step
            refine wpStill_nil ?_
            go_wp2_with fail
            go_meet
            case rel => exact ⟨by rw [Hg.out]; simp [hkk, h1], rfl⟩
        · have hkd : decide ((k : Int) < (keeps.length : Int)) = false := decide_eq_false (by omega)
          refine wp_region_held_drew (S := fun _ => True) (by kernel_rfl) trivial (fun hHeld => ?_)
          refine wpAnyH_take (i := 0) (v := ?_) rfl (by kernel_rfl) (by kernel_rfl) (by kernel_rfl) (fun _ _ _ h => h) (Or.inl ⟨by rfl, ?_⟩) (by assumption) ?_
          rotate_left
          · (intro wz hSz; go_simp) <;> with_reducible rfl
          simp only [Act.put, List.getElem_toArray, List.getElem_cons_zero, List.getElem_cons_succ, List.setIfInBounds_toArray, List.set_cons_zero, List.set_cons_succ]
          refine wpAnyH_take (i := 1) (v := ?_) rfl (by kernel_rfl) (by kernel_rfl) (by kernel_rfl) (fun _ _ _ h => h) (Or.inl ⟨by rfl, ?_⟩) (by assumption) ?_
          rotate_left
          · (intro wz hSz; go_simp) <;> with_reducible rfl
          simp only [Act.put, List.getElem_toArray, List.getElem_cons_zero, List.getElem_cons_succ, List.setIfInBounds_toArray, List.set_cons_zero, List.set_cons_succ]
          refine wpAnyH_take (i := 2) (v := ?_) rfl (by kernel_rfl) (by kernel_rfl) (by kernel_rfl) (fun _ _ _ h => h) (Or.inl ⟨by rfl, ?_⟩) (by assumption) ?_
          rotate_left
          · (intro wz hSz; go_simp) <;> with_reducible rfl
          simp only [Act.put, List.getElem_toArray, List.getElem_cons_zero, List.getElem_cons_succ, List.setIfInBounds_toArray, List.set_cons_zero, List.set_cons_succ]
          refine wpAnyH_take (i := 3) (v := ?_) rfl (by kernel_rfl) (by kernel_rfl) (by kernel_rfl) (fun _ _ _ h => h) (Or.inl ⟨by rfl, ?_⟩) (by assumption) ?_
          rotate_left
          · (intro wz hSz; go_simp) <;> with_reducible rfl
          simp only [Act.put, List.getElem_toArray, List.getElem_cons_zero, List.getElem_cons_succ, List.setIfInBounds_toArray, List.set_cons_zero, List.set_cons_succ]
          refine wpAnyH_take (i := 4) (v := ?_) rfl (by kernel_rfl) (by kernel_rfl) (by kernel_rfl) (fun _ _ _ h => h) (Or.inl ⟨by rfl, ?_⟩) (by assumption) ?_
          rotate_left
          · (intro wz hSz; go_simp) <;> with_reducible rfl
          simp only [Act.put, List.getElem_toArray, List.getElem_cons_zero, List.getElem_cons_succ, List.setIfInBounds_toArray, List.set_cons_zero, List.set_cons_succ]
          refine wpAnyH_take (i := 5) (v := undef) rfl (by kernel_rfl) (by kernel_rfl) (by kernel_rfl) (fun _ _ _ h => h) (Or.inr ⟨by rfl, rfl⟩) (by assumption) ?_
          simp only [Act.put, List.getElem_toArray, List.getElem_cons_zero, List.getElem_cons_succ, List.setIfInBounds_toArray, List.set_cons_zero, List.set_cons_succ]
          refine wpAnyH_take (i := 6) (v := undef) rfl (by kernel_rfl) (by kernel_rfl) (by kernel_rfl) (fun _ _ _ h => h) (Or.inr ⟨by rfl, rfl⟩) (by assumption) ?_
          simp only [Act.put, List.getElem_toArray, List.getElem_cons_zero, List.getElem_cons_succ, List.setIfInBounds_toArray, List.set_cons_zero, List.set_cons_succ]
          refine wpAnyH_take (i := 7) (v := undef) rfl (by kernel_rfl) (by kernel_rfl) (by kernel_rfl) (fun _ _ _ h => h) (Or.inr ⟨by rfl, rfl⟩) (by assumption) ?_
          simp only [Act.put, List.getElem_toArray, List.getElem_cons_zero, List.getElem_cons_succ, List.setIfInBounds_toArray, List.set_cons_zero, List.set_cons_succ]
          refine wpAnyH_take (i := 8) (v := undef) rfl (by kernel_rfl) (by kernel_rfl) (by kernel_rfl) (fun _ _ _ h => h) (Or.inr ⟨by rfl, rfl⟩) (by assumption) ?_
          simp only [Act.put, List.getElem_toArray, List.getElem_cons_zero, List.getElem_cons_succ, List.setIfInBounds_toArray, List.set_cons_zero, List.set_cons_succ]
          refine wpAnyH_take (i := 9) (v := undef) rfl (by kernel_rfl) (by kernel_rfl) (by kernel_rfl) (fun _ _ _ h => h) (Or.inr ⟨by rfl, rfl⟩) (by assumption) ?_
          simp only [Act.put, List.getElem_toArray, List.getElem_cons_zero, List.getElem_cons_succ, List.setIfInBounds_toArray, List.set_cons_zero, List.set_cons_succ]
          refine wpAnyH_take (i := 10) (v := undef) rfl (by kernel_rfl) (by kernel_rfl) (by kernel_rfl) (fun _ _ _ h => h) (Or.inr ⟨by rfl, rfl⟩) (by assumption) ?_
          simp only [Act.put, List.getElem_toArray, List.getElem_cons_zero, List.getElem_cons_succ, List.setIfInBounds_toArray, List.set_cons_zero, List.set_cons_succ]
          refine wpAnyH_take (i := 11) (v := undef) rfl (by kernel_rfl) (by kernel_rfl) (by kernel_rfl) (fun _ _ _ h => h) (Or.inr ⟨by rfl, rfl⟩) (by assumption) ?_
          simp only [Act.put, List.getElem_toArray, List.getElem_cons_zero, List.getElem_cons_succ, List.setIfInBounds_toArray, List.set_cons_zero, List.set_cons_succ]
          refine wpAnyH_take (i := 12) (v := undef) rfl (by kernel_rfl) (by kernel_rfl) (by kernel_rfl) (fun _ _ _ h => h) (Or.inr ⟨by rfl, rfl⟩) (by assumption) ?_
          simp only [Act.put, List.getElem_toArray, List.getElem_cons_zero, List.getElem_cons_succ, List.setIfInBounds_toArray, List.set_cons_zero, List.set_cons_succ]
          refine wpAnyH_take (i := 13) (v := undef) rfl (by kernel_rfl) (by kernel_rfl) (by kernel_rfl) (fun _ _ _ h => h) (Or.inr ⟨by rfl, rfl⟩) (by assumption) ?_
          simp only [Act.put, List.getElem_toArray, List.getElem_cons_zero, List.getElem_cons_succ, List.setIfInBounds_toArray, List.set_cons_zero, List.set_cons_succ]
          refine wpAnyH_take (i := 14) (v := undef) rfl (by kernel_rfl) (by kernel_rfl) (by kernel_rfl) (fun _ _ _ h => h) (Or.inr ⟨by rfl, rfl⟩) (by assumption) ?_
          simp only [Act.put, List.getElem_toArray, List.getElem_cons_zero, List.getElem_cons_succ, List.setIfInBounds_toArray, List.set_cons_zero, List.set_cons_succ]
          refine wpAnyH_take (i := 15) (v := ?_) rfl (by kernel_rfl) (by kernel_rfl) (by kernel_rfl) (fun _ _ _ h => h) (Or.inl ⟨by rfl, ?_⟩) (by assumption) ?_
          rotate_left
          · (intro wz hSz; go_simp) <;> with_reducible rfl
          simp only [Act.put, List.getElem_toArray, List.getElem_cons_zero, List.getElem_cons_succ, List.setIfInBounds_toArray, List.set_cons_zero, List.set_cons_succ]
          refine wpAnyH_done (by kernel_rfl) ?_ _
          go_wp2_with fail
          go_meet
          case rel => exact ⟨by simp [hkk], rfl⟩
      case rest =>
        obtain ⟨rfl, rfl⟩ := hcut
        obtain ⟨bb, hbb⟩ : ∃ bb, decide (k < keeps.length ∧ (f.loose.length : Int) ≤ keeps.getD k 0) = bb := ⟨_, rfl⟩
        rw [hbb]
        have Hbb := Lib.hid hbb
        clear hbb
        go_upto_if 41 with fail
        go_cut [8] from 42 to 73 (fun nv wx => nv = .int .i64 (keptN f (keeps.getD k 0) : Nat) ∧ wx = w6.drew)
        case first =>
          cases bb with
          | true =>
            have E := Lib.hid (keptN_all (of_decide_eq_true Hbb.out).2)
            go_wp2_with fail
            go_meet
            case rel => exact ⟨by rw [E.out]; go_num, rfl⟩
          | false =>
            have hnot := of_decide_eq_false Hbb.out
            by_cases hkk : k < keeps.length
            · obtain ⟨bk, ok, rfl, ek⟩ := hrk.at k (by rw [iCells_length]; exact hkk)
              simp only [iCells, List.getElem_map] at ek
              have ek6 := (hb6.cell (p := ⟨bk, ok + k, none⟩) (cell_lt ek)).trans ek
              have hg : keeps.getD k 0 = keeps[k] := by rw [List.getD_eq_getElem?_getD, List.getElem?_eq_getElem hkk]; rfl
              have hix := hki _ (List.getElem_mem hkk)
              obtain ⟨x, hx⟩ : ∃ x, keeps[k] = x := ⟨_, rfl⟩
              rw [hg] at hnot
              rw [hx] at ek6 hix hg hnot
              have hlx : x < (f.loose.length : Int) := by
                rcases Int.lt_or_le x (f.loose.length : Int) with h | h
                · exact h
                · exact absurd ⟨hkk, h⟩ hnot
              have Hg := Lib.hid hg
              clear hx hg ek hnot
              unfold isI64 at hix
              by_cases h0 : 0 < x
              · have E := Lib.hid (keptN_some hlx h0)
                go_wp2_with fail
                go_meet
                case rel => exact ⟨by rw [Hg.out, E.out], rfl⟩
              · have E := Lib.hid (keptN_none (f := f) (x := x) (by omega))
                go_wp2_with fail
                go_meet
                case rel => exact ⟨by rw [Hg.out, E.out], rfl⟩
            · have hg : keeps.getD k 0 = 0 := by rw [List.getD_eq_getElem?_getD, List.getElem?_eq_none (by omega)]; rfl
              have Hg := Lib.hid hg
              have E := Lib.hid (keptN_none (f := f) (x := 0) (by omega))
              clear hg hnot
              go_wp2_with fail
              go_meet
              case rel => exact ⟨by rw [Hg.out, E.out], rfl⟩
        case rest =>
          obtain ⟨rfl, rfl⟩ := hcut
          clear Hbb
          obtain ⟨x, hx⟩ : ∃ x, keeps.getD k 0 = x := ⟨_, rfl⟩
          rw [hx] at Hsucc ⊢
          clear hx
          have hKn := keptN_le f x
          have hkb : (f.kept x).firm ++ (f.kept x).loose = (f.firm ++ f.loose).take (keptN f x) := by rw [kept_eq]; simp
          have hkl2 : (f.kept x).firm.length = keptN f x := by rw [kept_eq]; simp; omega
          obtain ⟨N, hN⟩ : ∃ N, keptN f x = N := ⟨_, rfl⟩
          rw [hN] at hKn hkb hkl2 ⊢
          clear hN
          have Hkb := Lib.hid hkb
          have Hcell : Hid (∀ v : Value, REnt.cells ⟨nm, v, f.kept x⟩ = [.string nm, v, .int .i64 (N : Nat)]) := Lib.hid (fun v => by unfold REnt.cells; rw [hkl2])
          clear hkb hkl2
          have hF := fun (w : World) (hr : Rd w (.slice avb (f.firm.length + f.loose.length) cvb) (bcells (f.firm ++ f.loose))) => refFirst_at w nm _ (f.firm ++ f.loose) N N hr (by rw [List.length_append]; exact hKn) (by rw [List.length_append]; omega)
          have Hmx := Lib.hid (show N ≤ maxLen by simp only [maxLen]; omega)
          have hrd6 : Rd w6.drew.drew (.slice avb (f.firm.length + f.loose.length) cvb) (bcells (f.firm ++ f.loose)) := rd_low hokb hb6.drew.drew
          have hT6 := (hbX.block _ (blk_lt hTr)).trans hTr
          obtain ⟨q0, q1, q2, q3, _⟩ := cells4 hT6
          have hFl : wr.heap.size < w6.drew.drew.heap.size := blk_lt hX
          have hTl6 : w.heap.size + 1 + 1 < w6.drew.drew.heap.size := blk_lt hT6
          have hownx : wr.ownsRow (w.heap.size + 3) 82 3 (.slice a1 k c1) xs.length (flatR xs) := by have h := hC.own; have e := hC.len; subst e; exact h
          clear x0 x1 x2 x3 x4 x5 x6 x7 t0 t1 t2 t3 t4 t5 t6 t7 r0 r1 r2 r3 r4 r5 r6 r7 c0 c1' c2'
          go_upto_region 11 with fail
          refine wp_region_held_drew (S := fun w' => w'.cell? ⟨wr.heap.size, 0, none⟩ = some (.string nm) ∧ w'.cell? ⟨wr.heap.size, 1, none⟩ = some (.slice avb (f.firm.length + f.loose.length) cvb)) (by kernel_rfl) ⟨f0, f1⟩ (fun hHeld => ?_)
          refine wpAnyH_take (i := 0) (v := ?_) rfl (by kernel_rfl) (by kernel_rfl) (by kernel_rfl) (fun _ _ _ h => h) (Or.inl ⟨by rfl, ?_⟩) (by assumption) ?_
          rotate_left
          · (intro wz hSz; (try dsimp only at hSz); obtain ⟨s0, s1⟩ := hSz; go_simp) <;> with_reducible rfl
          simp only [Act.put, List.getElem_toArray, List.getElem_cons_zero, List.getElem_cons_succ, List.setIfInBounds_toArray, List.set_cons_zero, List.set_cons_succ]
          refine wpAnyH_take (i := 2) (v := ?_) rfl (by kernel_rfl) (by kernel_rfl) (by kernel_rfl) (fun _ _ _ h => h) (Or.inl ⟨by rfl, ?_⟩) (by assumption) ?_
          rotate_left
          · (intro wz hSz; (try dsimp only at hSz); obtain ⟨s0, s1⟩ := hSz; go_simp) <;> with_reducible rfl
          simp only [Act.put, List.getElem_toArray, List.getElem_cons_zero, List.getElem_cons_succ, List.setIfInBounds_toArray, List.set_cons_zero, List.set_cons_succ]
          refine wpAnyH_take (i := 3) (v := ?_) rfl (by kernel_rfl) (by kernel_rfl) (by kernel_rfl) (fun _ _ _ h => h) (Or.inl ⟨by rfl, ?_⟩) (by assumption) ?_
          rotate_left
          · (intro wz hSz; (try dsimp only at hSz); obtain ⟨s0, s1⟩ := hSz; go_simp) <;> with_reducible rfl
          simp only [Act.put, List.getElem_toArray, List.getElem_cons_zero, List.getElem_cons_succ, List.setIfInBounds_toArray, List.set_cons_zero, List.set_cons_succ]
          refine wpAnyH_take (i := 4) (v := ?_) rfl (by kernel_rfl) (by kernel_rfl) (by kernel_rfl) (fun _ _ _ h => h) (Or.inl ⟨by rfl, ?_⟩) (by assumption) ?_
          rotate_left
          · (intro wz hSz; (try dsimp only at hSz); obtain ⟨s0, s1⟩ := hSz; go_simp) <;> with_reducible rfl
          simp only [Act.put, List.getElem_toArray, List.getElem_cons_zero, List.getElem_cons_succ, List.setIfInBounds_toArray, List.set_cons_zero, List.set_cons_succ]
          refine wpAnyH_take (i := 5) (v := ?_) rfl (by kernel_rfl) (by kernel_rfl) (by kernel_rfl) (fun _ _ _ h => h) (Or.inl ⟨by rfl, ?_⟩) (by assumption) ?_
          rotate_left
          · (intro wz hSz; (try dsimp only at hSz); obtain ⟨s0, s1⟩ := hSz; go_simp) <;> with_reducible rfl
          simp only [Act.put, List.getElem_toArray, List.getElem_cons_zero, List.getElem_cons_succ, List.setIfInBounds_toArray, List.set_cons_zero, List.set_cons_succ]
          refine wpAnyH_take (i := 6) (v := ?_) rfl (by kernel_rfl) (by kernel_rfl) (by kernel_rfl) (fun _ _ _ h => h) (Or.inl ⟨by rfl, ?_⟩) (by assumption) ?_
          rotate_left
          · (intro wz hSz; (try dsimp only at hSz); obtain ⟨s0, s1⟩ := hSz; go_simp) <;> with_reducible rfl
          simp only [Act.put, List.getElem_toArray, List.getElem_cons_zero, List.getElem_cons_succ, List.setIfInBounds_toArray, List.set_cons_zero, List.set_cons_succ]
          refine wpAnyH_take (i := 7) (v := ?_) rfl (by kernel_rfl) (by kernel_rfl) (by kernel_rfl) (fun _ _ _ h => h) (Or.inl ⟨by rfl, ?_⟩) (by assumption) ?_
          rotate_left
          · (intro wz hSz; (try dsimp only at hSz); obtain ⟨s0, s1⟩ := hSz; go_simp) <;> with_reducible rfl
          simp only [Act.put, List.getElem_toArray, List.getElem_cons_zero, List.getElem_cons_succ, List.setIfInBounds_toArray, List.set_cons_zero, List.set_cons_succ]
          refine wpAnyH_ready (rs := [1, 8]) (by kernel_rfl) (by simp) (AllReadyH.cons rfl (fun K hK => ?_) (AllReadyH.cons rfl (fun K hK => ?_) AllReadyH.nil))
          · go_simp
            refine hK.out _ _ ⟨f0, f1⟩ (fun hHeld => ?_)
            clear hK K
            (try simp only [Act.put, List.getElem_toArray, List.getElem_cons_zero, List.getElem_cons_succ, List.setIfInBounds_toArray, List.set_cons_zero, List.set_cons_succ])
            refine wpAnyH_ready (rs := [8]) (by kernel_rfl) (by simp) (AllReadyH.cons rfl (fun K hK => ?_) AllReadyH.nil)
            go_simp
            refine (hF _ hrd6).mono ?_
            rintro e w7 ⟨a8, rfl, hr8, hb7, ha8, ha8'⟩
            have g0 := (hb7.cell (p := ⟨wr.heap.size, 0, none⟩) hFl).trans f0
            have g1 := (hb7.cell (p := ⟨wr.heap.size, 1, none⟩) hFl).trans f1
            have p1 := (hb7.cell (p := ⟨w.heap.size + 1 + 1, 1, none⟩) hTl6).trans q1
            have hs7 : w6.heap.size ≤ w7.heap.size := hb7.size
            have hFl7 : wr.heap.size < w7.heap.size := by omega
            have hTl7 : w.heap.size + 1 + 1 < w7.heap.size := by omega
            refine hK.out _ _ ⟨g0, g1⟩ (fun hHeld => ?_)
            clear hK K
            (try simp only [Act.put, List.getElem_toArray, List.getElem_cons_zero, List.getElem_cons_succ, List.setIfInBounds_toArray, List.set_cons_zero, List.set_cons_succ])
            refine wpAnyH_ready (rs := [9]) (by kernel_rfl) (by simp) (AllReadyH.cons rfl (fun K hK => ?_) AllReadyH.nil)
            go_simp
            refine hK.out _ _ ⟨(World.cell?_alloc_some _ _ _ (by rw [g0]; rfl)).trans g0, (World.cell?_alloc_some _ _ _ (by rw [g1]; rfl)).trans g1⟩ (fun hHeld => ?_)
            clear hK K
            (try simp only [Act.put, List.getElem_toArray, List.getElem_cons_zero, List.getElem_cons_succ, List.setIfInBounds_toArray, List.set_cons_zero, List.set_cons_succ])
            have hAl := alloc_at w7 (.cells #[.string nm, .slice (some ⟨a8, 0, none⟩) N N, .int .i64 (N : Nat)] 82)
            have hb78 : Below w7.heap.size w7 (w7.alloc (.cells #[.string nm, .slice (some ⟨a8, 0, none⟩) N N, .int .i64 (N : Nat)] 82)) := (Below.refl _ _).alloc (Nat.le_refl _) _
            have hbr8 : Below wr.heap.size wr (w7.alloc (.cells #[.string nm, .slice (some ⟨a8, 0, none⟩) N N, .int .i64 (N : Nat)] 82)) := (hbX.drew.drew.trans (hb7.mono hbX.size)).trans (hb78.mono (Nat.le_trans hbX.size hs7))
            have hs8 : (w7.alloc (.cells #[.string nm, .slice (some ⟨a8, 0, none⟩) N N, .int .i64 (N : Nat)] 82)).heap.size = w7.heap.size + 1 := by simp
            obtain ⟨w8, hw8⟩ : ∃ w8, w7.alloc (.cells #[.string nm, .slice (some ⟨a8, 0, none⟩) N N, .int .i64 (N : Nat)] 82) = w8 := ⟨_, rfl⟩
            rw [hw8] at hAl hb78 hbr8 hs8 ⊢
            clear hw8
            have hown8 := (Upd.ofBelow (fp := noFp) hbr8).row hownx (fun _ _ h => h)
            refine wpAnyH_ready (rs := [10]) (by kernel_rfl) (by simp) (AllReadyH.cons rfl (fun K hK => ?_) AllReadyH.nil)
            refine step_append_file rfl (.tmp 63) (.tmp 71) rfl (w.heap.size + 3) (.slice a1 k c1) xs ⟨nm, .slice (some ⟨a8, 0, none⟩) N N, f.kept x⟩ w7.heap.size 1 1 rfl rfl hown8 rfl (by rw [Hcell.out]; exact hAl) rfl (by have := hC.len; omega) (by omega) (k + 1) (by rw [hC.len]) _ rfl ?_
            intro g cap w9 hown hg hat
            have hU9 : Upd (fun j => (Value.slice a1 k c1).ownBlock = some j) w8 w9 := (Upd.refl _ w8).grown hg (fun j hj => Or.inl hj)
            have hlo : ∀ j, (Value.slice a1 k c1).ownBlock = some j → w.heap.size + 3 ≤ j := fun j hj => (hC.own.lt j hj).1
            have hlo2 : ∀ j, (Value.slice a1 k c1).ownBlock = some j → j < wr.heap.size := fun j hj => (hC.own.lt j hj).2
            have hX9 : w9.heap[wr.heap.size]? = some (.cells #[.string nm, .slice avb (f.firm.length + f.loose.length) cvb, .int .i64 (f.firm.length : Nat)] 82) := hU9.keep ((hb78.block _ (by omega)).trans ((hb7.block _ hFl).trans hX)) (fun e => by have := hlo2 _ e; omega)
            have hD9 := hU9.keep ((hbr8.block _ (blk_lt hDr)).trans hDr) (fun e => by have := hlo _ e; omega)
            have hR9 := hU9.keep ((hbr8.block _ (blk_lt hRr)).trans hRr) (fun e => by have := hlo _ e; omega)
            have hT9 := hU9.keep ((hbr8.block _ (blk_lt hTr)).trans hTr) (fun e => by have := hlo _ e; omega)
            obtain ⟨k0, k1, k2, _⟩ := cells3 hX9
            obtain ⟨y0, y1, y2, y3, y4, y5, y6, y7⟩ := cells4 hT9
            refine hK.out _ _ ⟨k0, k1⟩ (fun hHeld => ?_)
            clear hK K
            (try simp only [Act.put, List.getElem_toArray, List.getElem_cons_zero, List.getElem_cons_succ, List.setIfInBounds_toArray, List.set_cons_zero, List.set_cons_succ])
            refine wpAnyH_take (i := 11) (v := ?_) rfl (by kernel_rfl) (by kernel_rfl) (by kernel_rfl) (fun _ _ _ h => h) (Or.inl ⟨by rfl, ?_⟩) (by assumption) ?_
            rotate_left
            · (intro wz hSz; (try dsimp only at hSz); obtain ⟨s0, s1⟩ := hSz; go_simp) <;> with_reducible rfl
            simp only [Act.put, List.getElem_toArray, List.getElem_cons_zero, List.getElem_cons_succ, List.setIfInBounds_toArray, List.set_cons_zero, List.set_cons_succ]
            refine wpAnyH_ready (rs := [12]) (by kernel_rfl) (by simp) (AllReadyH.cons rfl (fun K hK => ?_) AllReadyH.nil)
            go_simp
            have hU10 : Upd (fun j => j = w.heap.size + 1 + 1) w9 (w9.setCell ⟨w.heap.size + 1 + 1, 1, none⟩ (.slice (some ⟨g, 0, none⟩) (k + 1) cap)) := setCell_upd 1 _
            have hX10 := hU10.keep hX9 (by omega)
            have hD10 := hU10.keep hD9 (by omega)
            have hR10 := hU10.keep hR9 (by omega)
            have hT10 := setCell_at hT9 1 (.slice (some ⟨g, 0, none⟩) (k + 1) cap)
            obtain ⟨m0, m1, m2, _⟩ := cells3 hX10
            refine hK.out _ _ ⟨m0, m1⟩ (fun hHeld => ?_)
            clear hK K
            refine wpAnyH_done (by kernel_rfl) ?_ _
            have hs9 := hU9.size
            have hCn := hC.next hbr8 hU9 hU10 (by omega) (by omega) hown (by rcases hat with e | e; exact Or.inl e; exact Or.inr e) rfl (by omega) (by omega) ⟨((show Rd w7 (.slice (some ⟨a8, 0, none⟩) N N) (bcells ((f.kept x).firm ++ (f.kept x).loose)) by rw [Hkb.out]; exact hr8).below hb78), ⟨fun _ g hg => by cases hg; exact (hNX.below hb6.drew.drew) _ ha8, _, _, _, rfl, Nat.le_refl _, Hmx.out⟩⟩
            have hb10 : Below w.heap.size w (w9.setCell ⟨w.heap.size + 1 + 1, 1, none⟩ (.slice (some ⟨g, 0, none⟩) (k + 1) cap)) := (hbr.trans ((hbr8.mono hbr.size).trans ((hU9.below (N := w.heap.size) (fun j hj => by have := hlo _ hj; omega) (by omega)).trans (hU10.below (fun j hj => by omega) (by omega)))))
            clear y0 y1 y2 y3 y4 y5 y6 y7 k0 k1 k2 m0 m1 m2
            go_wp2
            go_roundw
            case rel => exact ⟨k + 1, some ⟨g, 0, none⟩, cap, xs ++ [⟨nm, .slice (some ⟨a8, 0, none⟩) N N, f.kept x⟩], by omega, by go_num, hCn, by rw [Hsucc.out, List.map_append, Hxs.out]; rfl, hD10, hR10, hT10, hb10⟩
            case measure => simp [intOf]; omega
          · go_simp
            refine (hF _ hrd6).mono ?_
            rintro e w7 ⟨a8, rfl, hr8, hb7, ha8, ha8'⟩
            have g0 := (hb7.cell (p := ⟨wr.heap.size, 0, none⟩) hFl).trans f0
            have g1 := (hb7.cell (p := ⟨wr.heap.size, 1, none⟩) hFl).trans f1
            have p1 := (hb7.cell (p := ⟨w.heap.size + 1 + 1, 1, none⟩) hTl6).trans q1
            have hs7 : w6.heap.size ≤ w7.heap.size := hb7.size
            have hFl7 : wr.heap.size < w7.heap.size := by omega
            have hTl7 : w.heap.size + 1 + 1 < w7.heap.size := by omega
            refine hK.out _ _ ⟨g0, g1⟩ (fun hHeld => ?_)
            clear hK K
            (try simp only [Act.put, List.getElem_toArray, List.getElem_cons_zero, List.getElem_cons_succ, List.setIfInBounds_toArray, List.set_cons_zero, List.set_cons_succ])
            refine wpAnyH_ready (rs := [1, 9]) (by kernel_rfl) (by simp) (AllReadyH.cons rfl (fun K hK => ?_) (AllReadyH.cons rfl (fun K hK => ?_) AllReadyH.nil))
            · go_simp
              refine hK.out _ _ ⟨g0, g1⟩ (fun hHeld => ?_)
              clear hK K
              (try simp only [Act.put, List.getElem_toArray, List.getElem_cons_zero, List.getElem_cons_succ, List.setIfInBounds_toArray, List.set_cons_zero, List.set_cons_succ])
              refine wpAnyH_ready (rs := [9]) (by kernel_rfl) (by simp) (AllReadyH.cons rfl (fun K hK => ?_) AllReadyH.nil)
              go_simp
              refine hK.out _ _ ⟨(World.cell?_alloc_some _ _ _ (by rw [g0]; rfl)).trans g0, (World.cell?_alloc_some _ _ _ (by rw [g1]; rfl)).trans g1⟩ (fun hHeld => ?_)
              clear hK K
              (try simp only [Act.put, List.getElem_toArray, List.getElem_cons_zero, List.getElem_cons_succ, List.setIfInBounds_toArray, List.set_cons_zero, List.set_cons_succ])
              have hAl := alloc_at w7 (.cells #[.string nm, .slice (some ⟨a8, 0, none⟩) N N, .int .i64 (N : Nat)] 82)
              have hb78 : Below w7.heap.size w7 (w7.alloc (.cells #[.string nm, .slice (some ⟨a8, 0, none⟩) N N, .int .i64 (N : Nat)] 82)) := (Below.refl _ _).alloc (Nat.le_refl _) _
              have hbr8 : Below wr.heap.size wr (w7.alloc (.cells #[.string nm, .slice (some ⟨a8, 0, none⟩) N N, .int .i64 (N : Nat)] 82)) := (hbX.drew.drew.trans (hb7.mono hbX.size)).trans (hb78.mono (Nat.le_trans hbX.size hs7))
              have hs8 : (w7.alloc (.cells #[.string nm, .slice (some ⟨a8, 0, none⟩) N N, .int .i64 (N : Nat)] 82)).heap.size = w7.heap.size + 1 := by simp
              obtain ⟨w8, hw8⟩ : ∃ w8, w7.alloc (.cells #[.string nm, .slice (some ⟨a8, 0, none⟩) N N, .int .i64 (N : Nat)] 82) = w8 := ⟨_, rfl⟩
              rw [hw8] at hAl hb78 hbr8 hs8 ⊢
              clear hw8
              have hown8 := (Upd.ofBelow (fp := noFp) hbr8).row hownx (fun _ _ h => h)
              refine wpAnyH_ready (rs := [10]) (by kernel_rfl) (by simp) (AllReadyH.cons rfl (fun K hK => ?_) AllReadyH.nil)
              refine step_append_file rfl (.tmp 63) (.tmp 71) rfl (w.heap.size + 3) (.slice a1 k c1) xs ⟨nm, .slice (some ⟨a8, 0, none⟩) N N, f.kept x⟩ w7.heap.size 1 1 rfl rfl hown8 rfl (by rw [Hcell.out]; exact hAl) rfl (by have := hC.len; omega) (by omega) (k + 1) (by rw [hC.len]) _ rfl ?_
              intro g cap w9 hown hg hat
              have hU9 : Upd (fun j => (Value.slice a1 k c1).ownBlock = some j) w8 w9 := (Upd.refl _ w8).grown hg (fun j hj => Or.inl hj)
              have hlo : ∀ j, (Value.slice a1 k c1).ownBlock = some j → w.heap.size + 3 ≤ j := fun j hj => (hC.own.lt j hj).1
              have hlo2 : ∀ j, (Value.slice a1 k c1).ownBlock = some j → j < wr.heap.size := fun j hj => (hC.own.lt j hj).2
              have hX9 : w9.heap[wr.heap.size]? = some (.cells #[.string nm, .slice avb (f.firm.length + f.loose.length) cvb, .int .i64 (f.firm.length : Nat)] 82) := hU9.keep ((hb78.block _ (by omega)).trans ((hb7.block _ hFl).trans hX)) (fun e => by have := hlo2 _ e; omega)
              have hD9 := hU9.keep ((hbr8.block _ (blk_lt hDr)).trans hDr) (fun e => by have := hlo _ e; omega)
              have hR9 := hU9.keep ((hbr8.block _ (blk_lt hRr)).trans hRr) (fun e => by have := hlo _ e; omega)
              have hT9 := hU9.keep ((hbr8.block _ (blk_lt hTr)).trans hTr) (fun e => by have := hlo _ e; omega)
              obtain ⟨k0, k1, k2, _⟩ := cells3 hX9
              obtain ⟨y0, y1, y2, y3, y4, y5, y6, y7⟩ := cells4 hT9
              refine hK.out _ _ ⟨k0, k1⟩ (fun hHeld => ?_)
              clear hK K
              (try simp only [Act.put, List.getElem_toArray, List.getElem_cons_zero, List.getElem_cons_succ, List.setIfInBounds_toArray, List.set_cons_zero, List.set_cons_succ])
              refine wpAnyH_take (i := 11) (v := ?_) rfl (by kernel_rfl) (by kernel_rfl) (by kernel_rfl) (fun _ _ _ h => h) (Or.inl ⟨by rfl, ?_⟩) (by assumption) ?_
              rotate_left
              · (intro wz hSz; (try dsimp only at hSz); obtain ⟨s0, s1⟩ := hSz; go_simp) <;> with_reducible rfl
              simp only [Act.put, List.getElem_toArray, List.getElem_cons_zero, List.getElem_cons_succ, List.setIfInBounds_toArray, List.set_cons_zero, List.set_cons_succ]
              refine wpAnyH_ready (rs := [12]) (by kernel_rfl) (by simp) (AllReadyH.cons rfl (fun K hK => ?_) AllReadyH.nil)
              go_simp
              have hU10 : Upd (fun j => j = w.heap.size + 1 + 1) w9 (w9.setCell ⟨w.heap.size + 1 + 1, 1, none⟩ (.slice (some ⟨g, 0, none⟩) (k + 1) cap)) := setCell_upd 1 _
              have hX10 := hU10.keep hX9 (by omega)
              have hD10 := hU10.keep hD9 (by omega)
              have hR10 := hU10.keep hR9 (by omega)
              have hT10 := setCell_at hT9 1 (.slice (some ⟨g, 0, none⟩) (k + 1) cap)
              obtain ⟨m0, m1, m2, _⟩ := cells3 hX10
              refine hK.out _ _ ⟨m0, m1⟩ (fun hHeld => ?_)
              clear hK K
              refine wpAnyH_done (by kernel_rfl) ?_ _
              have hs9 := hU9.size
              have hCn := hC.next hbr8 hU9 hU10 (by omega) (by omega) hown (by rcases hat with e | e; exact Or.inl e; exact Or.inr e) rfl (by omega) (by omega) ⟨((show Rd w7 (.slice (some ⟨a8, 0, none⟩) N N) (bcells ((f.kept x).firm ++ (f.kept x).loose)) by rw [Hkb.out]; exact hr8).below hb78), ⟨fun _ g hg => by cases hg; exact (hNX.below hb6.drew.drew) _ ha8, _, _, _, rfl, Nat.le_refl _, Hmx.out⟩⟩
              have hb10 : Below w.heap.size w (w9.setCell ⟨w.heap.size + 1 + 1, 1, none⟩ (.slice (some ⟨g, 0, none⟩) (k + 1) cap)) := (hbr.trans ((hbr8.mono hbr.size).trans ((hU9.below (N := w.heap.size) (fun j hj => by have := hlo _ hj; omega) (by omega)).trans (hU10.below (fun j hj => by omega) (by omega)))))
              clear y0 y1 y2 y3 y4 y5 y6 y7 k0 k1 k2 m0 m1 m2
              go_wp2
              go_roundw
              case rel => exact ⟨k + 1, some ⟨g, 0, none⟩, cap, xs ++ [⟨nm, .slice (some ⟨a8, 0, none⟩) N N, f.kept x⟩], by omega, by go_num, hCn, by rw [Hsucc.out, List.map_append, Hxs.out]; rfl, hD10, hR10, hT10, hb10⟩
              case measure => simp [intOf]; omega
            · go_simp
              refine hK.out _ _ ⟨(World.cell?_alloc_some _ _ _ (by rw [g0]; rfl)).trans g0, (World.cell?_alloc_some _ _ _ (by rw [g1]; rfl)).trans g1⟩ (fun hHeld => ?_)
              clear hK K
              (try simp only [Act.put, List.getElem_toArray, List.getElem_cons_zero, List.getElem_cons_succ, List.setIfInBounds_toArray, List.set_cons_zero, List.set_cons_succ])
              refine wpAnyH_ready (rs := [1]) (by kernel_rfl) (by simp) (AllReadyH.cons rfl (fun K hK => ?_) AllReadyH.nil)
              go_simp
              refine hK.out _ _ ⟨(World.cell?_alloc_some _ _ _ (by rw [g0]; rfl)).trans g0, (World.cell?_alloc_some _ _ _ (by rw [g1]; rfl)).trans g1⟩ (fun hHeld => ?_)
              clear hK K
              (try simp only [Act.put, List.getElem_toArray, List.getElem_cons_zero, List.getElem_cons_succ, List.setIfInBounds_toArray, List.set_cons_zero, List.set_cons_succ])
              have hAl := alloc_at w7 (.cells #[.string nm, .slice (some ⟨a8, 0, none⟩) N N, .int .i64 (N : Nat)] 82)
              have hb78 : Below w7.heap.size w7 (w7.alloc (.cells #[.string nm, .slice (some ⟨a8, 0, none⟩) N N, .int .i64 (N : Nat)] 82)) := (Below.refl _ _).alloc (Nat.le_refl _) _
              have hbr8 : Below wr.heap.size wr (w7.alloc (.cells #[.string nm, .slice (some ⟨a8, 0, none⟩) N N, .int .i64 (N : Nat)] 82)) := (hbX.drew.drew.trans (hb7.mono hbX.size)).trans (hb78.mono (Nat.le_trans hbX.size hs7))
              have hs8 : (w7.alloc (.cells #[.string nm, .slice (some ⟨a8, 0, none⟩) N N, .int .i64 (N : Nat)] 82)).heap.size = w7.heap.size + 1 := by simp
              obtain ⟨w8, hw8⟩ : ∃ w8, w7.alloc (.cells #[.string nm, .slice (some ⟨a8, 0, none⟩) N N, .int .i64 (N : Nat)] 82) = w8 := ⟨_, rfl⟩
              rw [hw8] at hAl hb78 hbr8 hs8 ⊢
              clear hw8
              have hown8 := (Upd.ofBelow (fp := noFp) hbr8).row hownx (fun _ _ h => h)
              refine wpAnyH_ready (rs := [10]) (by kernel_rfl) (by simp) (AllReadyH.cons rfl (fun K hK => ?_) AllReadyH.nil)
              refine step_append_file rfl (.tmp 63) (.tmp 71) rfl (w.heap.size + 3) (.slice a1 k c1) xs ⟨nm, .slice (some ⟨a8, 0, none⟩) N N, f.kept x⟩ w7.heap.size 1 1 rfl rfl hown8 rfl (by rw [Hcell.out]; exact hAl) rfl (by have := hC.len; omega) (by omega) (k + 1) (by rw [hC.len]) _ rfl ?_
              intro g cap w9 hown hg hat
              have hU9 : Upd (fun j => (Value.slice a1 k c1).ownBlock = some j) w8 w9 := (Upd.refl _ w8).grown hg (fun j hj => Or.inl hj)
              have hlo : ∀ j, (Value.slice a1 k c1).ownBlock = some j → w.heap.size + 3 ≤ j := fun j hj => (hC.own.lt j hj).1
              have hlo2 : ∀ j, (Value.slice a1 k c1).ownBlock = some j → j < wr.heap.size := fun j hj => (hC.own.lt j hj).2
              have hX9 : w9.heap[wr.heap.size]? = some (.cells #[.string nm, .slice avb (f.firm.length + f.loose.length) cvb, .int .i64 (f.firm.length : Nat)] 82) := hU9.keep ((hb78.block _ (by omega)).trans ((hb7.block _ hFl).trans hX)) (fun e => by have := hlo2 _ e; omega)
              have hD9 := hU9.keep ((hbr8.block _ (blk_lt hDr)).trans hDr) (fun e => by have := hlo _ e; omega)
              have hR9 := hU9.keep ((hbr8.block _ (blk_lt hRr)).trans hRr) (fun e => by have := hlo _ e; omega)
              have hT9 := hU9.keep ((hbr8.block _ (blk_lt hTr)).trans hTr) (fun e => by have := hlo _ e; omega)
              obtain ⟨k0, k1, k2, _⟩ := cells3 hX9
              obtain ⟨y0, y1, y2, y3, y4, y5, y6, y7⟩ := cells4 hT9
              refine hK.out _ _ ⟨k0, k1⟩ (fun hHeld => ?_)
              clear hK K
              (try simp only [Act.put, List.getElem_toArray, List.getElem_cons_zero, List.getElem_cons_succ, List.setIfInBounds_toArray, List.set_cons_zero, List.set_cons_succ])
              refine wpAnyH_take (i := 11) (v := ?_) rfl (by kernel_rfl) (by kernel_rfl) (by kernel_rfl) (fun _ _ _ h => h) (Or.inl ⟨by rfl, ?_⟩) (by assumption) ?_
              rotate_left
              · (intro wz hSz; (try dsimp only at hSz); obtain ⟨s0, s1⟩ := hSz; go_simp) <;> with_reducible rfl
              simp only [Act.put, List.getElem_toArray, List.getElem_cons_zero, List.getElem_cons_succ, List.setIfInBounds_toArray, List.set_cons_zero, List.set_cons_succ]
              refine wpAnyH_ready (rs := [12]) (by kernel_rfl) (by simp) (AllReadyH.cons rfl (fun K hK => ?_) AllReadyH.nil)
              go_simp
              have hU10 : Upd (fun j => j = w.heap.size + 1 + 1) w9 (w9.setCell ⟨w.heap.size + 1 + 1, 1, none⟩ (.slice (some ⟨g, 0, none⟩) (k + 1) cap)) := setCell_upd 1 _
              have hX10 := hU10.keep hX9 (by omega)
              have hD10 := hU10.keep hD9 (by omega)
              have hR10 := hU10.keep hR9 (by omega)
              have hT10 := setCell_at hT9 1 (.slice (some ⟨g, 0, none⟩) (k + 1) cap)
              obtain ⟨m0, m1, m2, _⟩ := cells3 hX10
              refine hK.out _ _ ⟨m0, m1⟩ (fun hHeld => ?_)
              clear hK K
              refine wpAnyH_done (by kernel_rfl) ?_ _
              have hs9 := hU9.size
              have hCn := hC.next hbr8 hU9 hU10 (by omega) (by omega) hown (by rcases hat with e | e; exact Or.inl e; exact Or.inr e) rfl (by omega) (by omega) ⟨((show Rd w7 (.slice (some ⟨a8, 0, none⟩) N N) (bcells ((f.kept x).firm ++ (f.kept x).loose)) by rw [Hkb.out]; exact hr8).below hb78), ⟨fun _ g hg => by cases hg; exact (hNX.below hb6.drew.drew) _ ha8, _, _, _, rfl, Nat.le_refl _, Hmx.out⟩⟩
              have hb10 : Below w.heap.size w (w9.setCell ⟨w.heap.size + 1 + 1, 1, none⟩ (.slice (some ⟨g, 0, none⟩) (k + 1) cap)) := (hbr.trans ((hbr8.mono hbr.size).trans ((hU9.below (N := w.heap.size) (fun j hj => by have := hlo _ hj; omega) (by omega)).trans (hU10.below (fun j hj => by omega) (by omega)))))
              clear y0 y1 y2 y3 y4 y5 y6 y7 k0 k1 k2 m0 m1 m2
              go_wp2
              go_roundw
              case rel => exact ⟨k + 1, some ⟨g, 0, none⟩, cap, xs ++ [⟨nm, .slice (some ⟨a8, 0, none⟩) N N, f.kept x⟩], by omega, by go_num, hCn, by rw [Hsucc.out, List.map_append, Hxs.out]; rfl, hD10, hR10, hT10, hb10⟩
              case measure => simp [intOf]; omega
    · obtain rfl : k = es.length := by omega
      have hxs := Hxs.out
      have hfl : fs.length = es.length := by rw [← Hes.out, List.length_map]
      rw [← hfl] at hxs
      have hRf : RefAt X wr a1 es.length c1 ⟨most, -1, false, crashE fs keeps fs.length⟩ := RefAt.of_row hC.own hC.len (by simp only [maxLen]; omega) (fun y hy => (hC.ok y hy).1) hxs.symm (fun g hg => hX g (by have := (hC.own.lt g hg).1; omega))
      have HRf := Lib.hid hRf
      clear hxs hfl hRf hC hat
      go_wp2
      obtain ⟨p1, p2⟩ := ref_answer HRf.out hRr hbr (by omega) (.int .i64 most) (.slice a1 es.length c1) (.int .i64 (-1)) (.bool false)
      exact bodyPost_ret (v := .agg #[.int .i64 most, .slice a1 es.length c1, .int .i64 (-1), .bool false]) (by simp [results, Tryz.results14, go_sem, r0, r1, r2, r3]) rfl ⟨_, _, _, rfl, p1, p2⟩
end Go.Proofs.YtkacgmbinkoojaaGreatDoor

/-
  Two disks held against each other: SameBytes, SameDisk (printed by wip/gen/gen_same.py).
-/
namespace Go.Proofs.YtkacgmbinkoojaaGreatDoor
open Go.RowKit Go.Maps Go.MapKept
variable {X : Nat → Prop}
set_option linter.unusedSimpArgs false

set_option maxRecDepth 100000 in
set_option maxHeartbeats 2000000 in
theorem SameBytes_any (w : World) (va vb : Value) (x y : List UInt8) (ha : Rd w va (bcells x)) (hb : Rd w vb (bcells y)) :
    Calls Tryz.prog 55 #[va, vb] w fun e w' => e = .returned (.bool (decide (x = y))) ∧ w = w' := by
  have h1 := run_bytes_str (P := Tryz.prog) ha Tryz.underlying33 Tryz.underlying5 Tryz.underlying9
  have h2 := run_bytes_str (P := Tryz.prog) hb Tryz.underlying33 Tryz.underlying5 Tryz.underlying9
  have hfin : ((⟨x.toArray⟩ : ByteArray).toList == (⟨y.toArray⟩ : ByteArray).toList) = decide (x = y) := by
    rw [ByteArray.toList_eq, ByteArray.toList_eq]
    by_cases h : x = y <;> simp [h]
  obtain ⟨S1, hS1⟩ : ∃ S1 : ByteArray, (⟨x.toArray⟩ : ByteArray) = S1 := ⟨_, rfl⟩
  obtain ⟨S2, hS2⟩ : ∃ S2 : ByteArray, (⟨y.toArray⟩ : ByteArray) = S2 := ⟨_, rfl⟩
  rw [hS1] at h1 hfin
  rw [hS2] at h2 hfin
  have Hfin := Lib.hid hfin
  clear hS1 hS2 hfin
  obtain ⟨a1, c1, rfl⟩ := ha.shape
  obtain ⟨a2, c2, rfl⟩ := hb.shape
  go_enter Tryz.func55, Tryz.ntmps55
  go_wp2
  go_ret
  exact ⟨by rw [← Hfin.out]; rfl, rfl⟩
theorem SameBytes_eq (w : World) (va vb : Value) (x : List UInt8) (ha : Rd w va (bcells x)) (hb : Rd w vb (bcells x)) :
    Calls Tryz.prog 55 #[va, vb] w fun e w' => e = .returned (.bool true) ∧ w = w' := by
  have := SameBytes_any w va vb x x ha hb
  rwa [decide_eq_true (rfl : x = x)] at this

set_option maxRecDepth 100000 in
set_option maxHeartbeats 8000000 in
theorem SameDisk_any {ex : Nat → Prop} (w : World) (p m : Nat) (a : Option Addr) (n c : Nat) (d : ADisk) (h : DiskAt ex w p m d) (hr : RefAt X w a n c d) :
    Calls Tryz.prog 22 #[.pointer (some ⟨p, 0, none⟩), refVal a n c d] w fun e w' => e = .returned (.bool true) ∧ Below w.heap.size w w' := by
  have hw := h.wf
  have hcnt := hw.count
  have hnl : d.names.length = d.fs.length := by simp [ADisk.names]
  have hlen := hr.len
  have hUs := fun (w : World) (h : RefAt X w a n c d) => refUsed_any w a n c d h hw
  unfold refVal at hUs ⊢
  have hD := alloc_at w (.cells #[.int .i64 d.most, .slice a n c, .int .i64 d.left, .bool d.down] 29)
  have hbW : Below w.heap.size w (w.alloc (.cells #[.int .i64 d.most, .slice a n c, .int .i64 d.left, .bool d.down] 29)) := (Below.refl _ _).alloc (Nat.le_refl _) _
  obtain ⟨W, hW⟩ : ∃ W, w.alloc (.cells #[.int .i64 d.most, .slice a n c, .int .i64 d.left, .bool d.down] 29) = W := ⟨_, rfl⟩
  rw [hW] at hD hbW
  have HW := Lib.hid hW
  clear hW
  have hDW := h.below hbW
  have hrW := hr.below hbW
  have Hlen := Lib.hid hlen
  have Hnl := Lib.hid hnl
  have hnn : ((d.names.length : Int) == (n : Int)) = true := by rw [hnl, hlen]; simp
  clear hlen hnl
  go_enter Tryz.func22, Tryz.ntmps22
  go_wp2_with fail
  rw [HW.out]
  refine (List_at hDW).mono ?_
  rintro e w1 ⟨la, lc, rfl, hrow, _, hb1⟩
  have hD1 := (hb1.block _ (blk_lt hD)).trans hD
  have hbw1 := hbW.trans (hb1.mono hbW.size)
  have hd1 := hDW.below hb1
  have hr1 := hrW.below hb1
  have hrn : Rd w1 (.slice la d.names.length lc) (d.names.map Value.string) := Rd.ofOwns hrow
  have hd1d := hd1.below ((Below.refl w1.heap.size w1).drew)
  have hr1d := hr1.below ((Below.refl w1.heap.size w1).drew)
  obtain ⟨y0, y1, y2, y3, _⟩ := cells4 hD1
  have hDl1 := blk_lt hD1
  dsimp only
  go_wp2_with fail
  go_region_held3 (fun w' => w'.cell? ⟨w.heap.size, 0, none⟩ = some (.int .i64 d.most) ∧ w'.cell? ⟨w.heap.size, 1, none⟩ = some (.slice a n c) ∧ w'.cell? ⟨w.heap.size, 2, none⟩ = some (.int .i64 d.left) ∧ w'.cell? ⟨w.heap.size, 3, none⟩ = some (.bool d.down))
    (first | exact ⟨y0, y1, y2, y3⟩ | exact S2 | exact S3 | go_keep)
    (first
      | (go_at_call 56; (with_reducible refine (Down_at hd1d).mono ?_); rintro e wq ⟨rfl, rfl⟩)
      | (go_at_call 46; (with_reducible refine (Used_at hd1d).mono ?_); rintro e w2 ⟨rfl, hb2⟩; have S2 : w2.cell? ⟨w.heap.size, 0, none⟩ = some (.int .i64 d.most) ∧ w2.cell? ⟨w.heap.size, 1, none⟩ = some (.slice a n c) ∧ w2.cell? ⟨w.heap.size, 2, none⟩ = some (.int .i64 d.left) ∧ w2.cell? ⟨w.heap.size, 3, none⟩ = some (.bool d.down) := ⟨(hb2.cell (p := ⟨w.heap.size, 0, none⟩) hDl1).trans y0, (hb2.cell (p := ⟨w.heap.size, 1, none⟩) hDl1).trans y1, (hb2.cell (p := ⟨w.heap.size, 2, none⟩) hDl1).trans y2, (hb2.cell (p := ⟨w.heap.size, 3, none⟩) hDl1).trans y3⟩; have hr2 := hr1d.below hb2)
      | (go_at_call 50; (with_reducible refine (hUs _ hr2).mono ?_); rintro e w3 ⟨rfl, hb3⟩; have S3 : w3.cell? ⟨w.heap.size, 0, none⟩ = some (.int .i64 d.most) ∧ w3.cell? ⟨w.heap.size, 1, none⟩ = some (.slice a n c) ∧ w3.cell? ⟨w.heap.size, 2, none⟩ = some (.int .i64 d.left) ∧ w3.cell? ⟨w.heap.size, 3, none⟩ = some (.bool d.down) := ⟨(hb3.cell (p := ⟨w.heap.size, 0, none⟩) (cell_lt S2.1)).trans S2.1, (hb3.cell (p := ⟨w.heap.size, 1, none⟩) (cell_lt S2.1)).trans S2.2.1, (hb3.cell (p := ⟨w.heap.size, 2, none⟩) (cell_lt S2.1)).trans S2.2.2.1, (hb3.cell (p := ⟨w.heap.size, 3, none⟩) (cell_lt S2.1)).trans S2.2.2.2⟩))
  have hb13 : Below w1.heap.size w1 w3 := (((Below.refl w1.heap.size w1).drew).trans hb2).trans (hb3.mono hb2.size)
  have hb03 := hbw1.trans (hb13.mono hbw1.size)
  clear S2 S3 hr2 hr1d hd1d y0 y1 y2 y3
  go_wp2_with fail
  go_loopw [6, 7] (fun sm i wr => ∃ k : Nat, k ≤ d.names.length ∧ i = .int .i64 k ∧ sm = .bool true ∧ Below w.heap.size w wr ∧ Below w1.heap.size w1 wr) (fun _ i _ => d.names.length - (intOf i).toNat)
  case atStart => exact ⟨0, by omega, rfl, rfl, hb03, hb13⟩
  case round =>
    obtain ⟨k, hk, rfl, rfl, hbr, hbr1⟩ := hrel
    by_cases hlt : k < d.names.length
    · have hkf : k < d.fs.length := by rw [← Hnl.out]; exact hlt
      have hrr := hr.below hbr
      obtain ⟨b, off, vb, rfl, c0, c1, c2, hrf0⟩ := hrr.at k hkf
      obtain ⟨bn, on, rfl, cn⟩ := hrn.at k (by simpa using hlt)
      have hnk : (d.names.map Value.string)[k]'(by simpa using hlt) = .string d.fs[k].1 := by simp [ADisk.names]
      rw [hnk] at cn
      have cn' := (hbr1.cell (p := ⟨bn, on + k, none⟩) (cell_lt cn)).trans cn
      have hlk := mem_lk hw.sorted (f := d.fs[k].2) (s := d.fs[k].1) (List.getElem_mem hkf)
      have hns0 := hw.names _ (List.getElem_mem hkf)
      have hkn : (k : Int) < (n : Int) := by rw [Hlen.out]; omega
      obtain ⟨nm, hnm⟩ : ∃ nm, d.fs[k].1 = nm := ⟨_, rfl⟩
      obtain ⟨f, hf⟩ : ∃ f, d.fs[k].2 = f := ⟨_, rfl⟩
      rw [hnm] at c0 cn' hlk hns0
      rw [hf] at c2 hrf0 hlk
      clear hnk cn hnm hf
      have hns : nm.size ≤ maxLen := by
        simp only [okName, Bool.and_eq_true, decide_eq_true_eq] at hns0
        have := hns0.2
        simp only [maxLen]; omega
      have haf : afile d nm = f := by unfold afile; rw [hlk]; rfl
      have hsy : ((afile d nm).firm.length : Int) = (f.firm.length : Int) := by rw [haf]
      have hsi : ((afile d nm).len : Int) = (f.firm.length : Int) + (f.loose.length : Int) := by rw [haf]; unfold AFile.len; omega
      obtain ⟨avb, cvb, rfl⟩ := hrf0.shape
      rw [bcells_length, List.length_append] at hrf0 c1
      have hbl := cell_lt c0
      have hDr := (hbr1.block _ (blk_lt hD1)).trans hD1
      obtain ⟨q0, q1, q2, q3, _⟩ := cells4 hDr
      have hDl := blk_lt hDr
      have hnl := cell_lt cn'
      go_wp2_with fail
      go_region_held3 (fun w' => w'.cell? ⟨w.heap.size, 1, none⟩ = some (.slice (some ⟨b, off, none⟩) n c) ∧ w'.cell? ⟨b, off + k * 3, none⟩ = some (.string nm) ∧ w'.cell? ⟨b, off + k * 3 + 1, none⟩ = some (.slice avb (f.firm.length + f.loose.length) cvb) ∧ w'.cell? ⟨b, off + k * 3 + 2, none⟩ = some (.int .i64 (f.firm.length : Nat)) ∧ w'.cell? ⟨bn, on + k, none⟩ = some (.string nm))
        (first | exact ⟨q1, c0, c1, c2, cn'⟩ | go_keep) (fail)
      have hX := alloc_at wr (.cells #[.string nm, .slice avb (f.firm.length + f.loose.length) cvb, .int .i64 (f.firm.length : Nat)] 82)
      have hX4 : (wr.alloc (.cells #[.string nm, .slice avb (f.firm.length + f.loose.length) cvb, .int .i64 (f.firm.length : Nat)] 82)).drew.heap[wr.heap.size]? = some (.cells #[.string nm, .slice avb (f.firm.length + f.loose.length) cvb, .int .i64 (f.firm.length : Nat)] 82) := hX
      have hb4 : Below wr.heap.size wr (wr.alloc (.cells #[.string nm, .slice avb (f.firm.length + f.loose.length) cvb, .int .i64 (f.firm.length : Nat)] 82)).drew := ((Below.refl _ _).alloc (Nat.le_refl _) _).drew
      clear hX
      obtain ⟨w4, hw4⟩ : ∃ w4, (wr.alloc (.cells #[.string nm, .slice avb (f.firm.length + f.loose.length) cvb, .int .i64 (f.firm.length : Nat)] 82)).drew = w4 := ⟨_, rfl⟩
      rw [hw4] at hX4 hb4 ⊢
      clear hw4
      have hbw4 := hbr.trans (hb4.mono hbr.size)
      have hbw41 := hbr1.trans (hb4.mono hbr1.size)
      have hD4 := (hb4.block _ (blk_lt hDr)).trans hDr
      have hd4 := h.below hbw4
      have hrf4 := rd_low hrf0 hb4
      have hR := Read_at nm hd4 hns
      clear c0 c1 c2 cn' q0 q1 q2 q3 hDl hDr hb4 hbl
      have hdn : d.down = true ∨ d.down = false := by cases d.down <;> simp
      rcases hdn with hdn | hdn
      · have he : findErr d nm = 15 := by simp [findErr, hdn]
        have hby : d.readBytes nm = [] := by unfold ADisk.readBytes; rw [he]; rfl
        rw [he, hby] at hR
        clear he hby
        have Hdn := Lib.hid hdn
        have hdq : (d.down == true) = true := by simp [hdn]
        clear hdn
        go_wp2_with fail
        refine hR.mono ?_
        rintro e w5 ⟨ra, rc, rfl, hrow5, hb45⟩
        have hb5 := hbw4.trans (hb45.mono hbw4.size)
        have hb51 := hbw41.trans (hb45.mono hbw41.size)
        have hD5 : DiskAt ex w5.drew p m d := (hd4.below hb45).drew
        have hDr5 := (hb45.block _ (blk_lt hD4)).trans hD4
        have hX5 := (hb45.block _ (blk_lt hX4)).trans hX4
        obtain ⟨q0, q1, q2, q3, _⟩ := cells4 hDr5
        obtain ⟨f0, f1, f2, _⟩ := cells3 hX5
        rw [Hdn.out] at q3
        have hDl : w.heap.size < w5.drew.heap.size := blk_lt hDr5
        have hXl : wr.heap.size < w5.drew.heap.size := blk_lt hX5
        clear hR
        dsimp only
        go_wp2_with fail
        refine wp_region_held_drew (S := fun w' => Below w5.drew.heap.size w5.drew w') (by kernel_rfl) (Below.refl _ _) (fun hHeld => ?_)
        refine wpAnyH_take (i := 0) (v := ?_) rfl (by kernel_rfl) (by kernel_rfl) (by kernel_rfl) (fun _ _ _ h => h) (Or.inl ⟨by rfl, ?_⟩) (by assumption) ?_
        rotate_left
        · (intro wz hSz; (try dsimp only at hSz); go_simp) <;> with_reducible rfl
        simp only [Act.put, List.getElem_toArray, List.getElem_cons_zero, List.getElem_cons_succ, List.setIfInBounds_toArray, List.set_cons_zero, List.set_cons_succ]
        refine wpAnyH_take (i := 1) (v := ?_) rfl (by kernel_rfl) (by kernel_rfl) (by kernel_rfl) (fun _ _ _ h => h) (Or.inl ⟨by rfl, ?_⟩) (by assumption) ?_
        rotate_left
        · (intro wz hSz; (try dsimp only at hSz); go_simp) <;> with_reducible rfl
        simp only [Act.put, List.getElem_toArray, List.getElem_cons_zero, List.getElem_cons_succ, List.setIfInBounds_toArray, List.set_cons_zero, List.set_cons_succ]
        refine wpAnyH_take (i := 2) (v := ?_) rfl (by kernel_rfl) (by kernel_rfl) (by kernel_rfl) (fun _ _ _ h => h) (Or.inl ⟨by rfl, ?_⟩) (by assumption) ?_
        rotate_left
        · (intro wz hSz; (try dsimp only at hSz); have sz0 := (hSz.cell (p := ⟨wr.heap.size, 0, none⟩) hXl).trans f0; have sz1 := (hSz.cell (p := ⟨wr.heap.size, 1, none⟩) hXl).trans f1; have sz2 := (hSz.cell (p := ⟨wr.heap.size, 2, none⟩) hXl).trans f2; go_simp) <;> with_reducible rfl
        simp only [Act.put, List.getElem_toArray, List.getElem_cons_zero, List.getElem_cons_succ, List.setIfInBounds_toArray, List.set_cons_zero, List.set_cons_succ]
        refine wpAnyH_take (i := 3) (v := ?_) rfl (by kernel_rfl) (by kernel_rfl) (by kernel_rfl) (fun _ _ _ h => h) (Or.inl ⟨by rfl, ?_⟩) (by assumption) ?_
        rotate_left
        · (intro wz hSz; (try dsimp only at hSz); go_simp) <;> with_reducible rfl
        simp only [Act.put, List.getElem_toArray, List.getElem_cons_zero, List.getElem_cons_succ, List.setIfInBounds_toArray, List.set_cons_zero, List.set_cons_succ]
        refine wpAnyH_take (i := 4) (v := ?_) rfl (by kernel_rfl) (by kernel_rfl) (by kernel_rfl) (fun _ _ _ h => h) (Or.inl ⟨by rfl, ?_⟩) (by assumption) ?_
        rotate_left
        · (intro wz hSz; (try dsimp only at hSz); go_simp) <;> with_reducible rfl
        simp only [Act.put, List.getElem_toArray, List.getElem_cons_zero, List.getElem_cons_succ, List.setIfInBounds_toArray, List.set_cons_zero, List.set_cons_succ]
        refine wpAnyH_take (i := 5) (v := ?_) rfl (by kernel_rfl) (by kernel_rfl) (by kernel_rfl) (fun _ _ _ h => h) (Or.inl ⟨by rfl, ?_⟩) (by assumption) ?_
        rotate_left
        · (intro wz hSz; (try dsimp only at hSz); go_simp) <;> with_reducible rfl
        simp only [Act.put, List.getElem_toArray, List.getElem_cons_zero, List.getElem_cons_succ, List.setIfInBounds_toArray, List.set_cons_zero, List.set_cons_succ]
        refine wpAnyH_take (i := 6) (v := ?_) rfl (by kernel_rfl) (by kernel_rfl) (by kernel_rfl) (fun _ _ _ h => h) (Or.inl ⟨by rfl, ?_⟩) (by assumption) ?_
        rotate_left
        · (intro wz hSz; (try dsimp only at hSz); go_simp) <;> with_reducible rfl
        simp only [Act.put, List.getElem_toArray, List.getElem_cons_zero, List.getElem_cons_succ, List.setIfInBounds_toArray, List.set_cons_zero, List.set_cons_succ]
        refine wpAnyH_take (i := 7) (v := ?_) rfl (by kernel_rfl) (by kernel_rfl) (by kernel_rfl) (fun _ _ _ h => h) (Or.inl ⟨by rfl, ?_⟩) (by assumption) ?_
        rotate_left
        · (intro wz hSz; (try dsimp only at hSz); have sd3 := (hSz.cell (p := ⟨w.heap.size, 3, none⟩) hDl).trans q3; go_simp) <;> with_reducible rfl
        simp only [Act.put, List.getElem_toArray, List.getElem_cons_zero, List.getElem_cons_succ, List.setIfInBounds_toArray, List.set_cons_zero, List.set_cons_succ]
        refine wpAnyH_take (i := 8) (v := ?_) rfl (by kernel_rfl) (by kernel_rfl) (by kernel_rfl) (fun _ _ _ h => h) (Or.inl ⟨by rfl, ?_⟩) (by assumption) ?_
        rotate_left
        · (intro wz hSz; (try dsimp only at hSz); go_simp) <;> with_reducible rfl
        simp only [Act.put, List.getElem_toArray, List.getElem_cons_zero, List.getElem_cons_succ, List.setIfInBounds_toArray, List.set_cons_zero, List.set_cons_succ]
        refine wpAnyH_take (i := 9) (v := ?_) rfl (by kernel_rfl) (by kernel_rfl) (by kernel_rfl) (fun _ _ _ h => h) (Or.inl ⟨by rfl, ?_⟩) (by assumption) ?_
        rotate_left
        · (intro wz hSz; (try dsimp only at hSz); go_simp) <;> with_reducible rfl
        simp only [Act.put, List.getElem_toArray, List.getElem_cons_zero, List.getElem_cons_succ, List.setIfInBounds_toArray, List.set_cons_zero, List.set_cons_succ]
        refine wpAnyH_take (i := 10) (v := ?_) rfl (by kernel_rfl) (by kernel_rfl) (by kernel_rfl) (fun _ _ _ h => h) (Or.inl ⟨by rfl, ?_⟩) (by assumption) ?_
        rotate_left
        · (intro wz hSz; (try dsimp only at hSz); go_simp) <;> with_reducible rfl
        simp only [Act.put, List.getElem_toArray, List.getElem_cons_zero, List.getElem_cons_succ, List.setIfInBounds_toArray, List.set_cons_zero, List.set_cons_succ]
        refine wpAnyH_take (i := 11) (v := ?_) rfl (by kernel_rfl) (by kernel_rfl) (by kernel_rfl) (fun _ _ _ h => h) (Or.inl ⟨by rfl, ?_⟩) (by assumption) ?_
        rotate_left
        · (intro wz hSz; (try dsimp only at hSz); go_simp) <;> with_reducible rfl
        simp only [Act.put, List.getElem_toArray, List.getElem_cons_zero, List.getElem_cons_succ, List.setIfInBounds_toArray, List.set_cons_zero, List.set_cons_succ]
        refine wpAnyH_take (i := 12) (v := ?_) rfl (by kernel_rfl) (by kernel_rfl) (by kernel_rfl) (fun _ _ _ h => h) (Or.inl ⟨by rfl, ?_⟩) (by assumption) ?_
        rotate_left
        · (intro wz hSz; (try dsimp only at hSz); go_simp) <;> with_reducible rfl
        simp only [Act.put, List.getElem_toArray, List.getElem_cons_zero, List.getElem_cons_succ, List.setIfInBounds_toArray, List.set_cons_zero, List.set_cons_succ]
        refine wpAnyH_take (i := 13) (v := undef) rfl (by kernel_rfl) (by kernel_rfl) (by kernel_rfl) (fun _ _ _ h => h) (Or.inr ⟨by rfl, rfl⟩) (by assumption) ?_
        simp only [Act.put, List.getElem_toArray, List.getElem_cons_zero, List.getElem_cons_succ, List.setIfInBounds_toArray, List.set_cons_zero, List.set_cons_succ]
        refine wpAnyH_take (i := 14) (v := undef) rfl (by kernel_rfl) (by kernel_rfl) (by kernel_rfl) (fun _ _ _ h => h) (Or.inr ⟨by rfl, rfl⟩) (by assumption) ?_
        simp only [Act.put, List.getElem_toArray, List.getElem_cons_zero, List.getElem_cons_succ, List.setIfInBounds_toArray, List.set_cons_zero, List.set_cons_succ]
        refine wpAnyH_take (i := 15) (v := undef) rfl (by kernel_rfl) (by kernel_rfl) (by kernel_rfl) (fun _ _ _ h => h) (Or.inr ⟨by rfl, rfl⟩) (by assumption) ?_
        simp only [Act.put, List.getElem_toArray, List.getElem_cons_zero, List.getElem_cons_succ, List.setIfInBounds_toArray, List.set_cons_zero, List.set_cons_succ]
        refine wpAnyH_take (i := 16) (v := undef) rfl (by kernel_rfl) (by kernel_rfl) (by kernel_rfl) (fun _ _ _ h => h) (Or.inr ⟨by rfl, rfl⟩) (by assumption) ?_
        simp only [Act.put, List.getElem_toArray, List.getElem_cons_zero, List.getElem_cons_succ, List.setIfInBounds_toArray, List.set_cons_zero, List.set_cons_succ]
        refine wpAnyH_take (i := 17) (v := ?_) rfl (by kernel_rfl) (by kernel_rfl) (by kernel_rfl) (fun _ _ _ h => h) (Or.inl ⟨by rfl, ?_⟩) (by assumption) ?_
        rotate_left
        · (intro wz hSz; (try dsimp only at hSz); go_simp) <;> with_reducible rfl
        simp only [Act.put, List.getElem_toArray, List.getElem_cons_zero, List.getElem_cons_succ, List.setIfInBounds_toArray, List.set_cons_zero, List.set_cons_succ]
        refine wpAnyH_take (i := 18) (v := ?_) rfl (by kernel_rfl) (by kernel_rfl) (by kernel_rfl) (fun _ _ _ h => h) (Or.inl ⟨by rfl, ?_⟩) (by assumption) ?_
        rotate_left
        · (intro wz hSz; (try dsimp only at hSz); go_simp) <;> with_reducible rfl
        simp only [Act.put, List.getElem_toArray, List.getElem_cons_zero, List.getElem_cons_succ, List.setIfInBounds_toArray, List.set_cons_zero, List.set_cons_succ]
        refine wpAnyH_take (i := 19) (v := ?_) rfl (by kernel_rfl) (by kernel_rfl) (by kernel_rfl) (fun _ _ _ h => h) (Or.inl ⟨by rfl, ?_⟩) (by assumption) ?_
        rotate_left
        · (intro wz hSz; (try dsimp only at hSz); go_simp) <;> with_reducible rfl
        simp only [Act.put, List.getElem_toArray, List.getElem_cons_zero, List.getElem_cons_succ, List.setIfInBounds_toArray, List.set_cons_zero, List.set_cons_succ]
        refine wpAnyH_take (i := 20) (v := ?_) rfl (by kernel_rfl) (by kernel_rfl) (by kernel_rfl) (fun _ _ _ h => h) (Or.inl ⟨by rfl, ?_⟩) (by assumption) ?_
        rotate_left
        · (intro wz hSz; (try dsimp only at hSz); go_simp) <;> with_reducible rfl
        simp only [Act.put, List.getElem_toArray, List.getElem_cons_zero, List.getElem_cons_succ, List.setIfInBounds_toArray, List.set_cons_zero, List.set_cons_succ]
        refine wpAnyH_take (i := 21) (v := ?_) rfl (by kernel_rfl) (by kernel_rfl) (by kernel_rfl) (fun _ _ _ h => h) (Or.inl ⟨by rfl, ?_⟩) (by assumption) ?_
        rotate_left
        · (intro wz hSz; (try dsimp only at hSz); go_simp) <;> with_reducible rfl
        simp only [Act.put, List.getElem_toArray, List.getElem_cons_zero, List.getElem_cons_succ, List.setIfInBounds_toArray, List.set_cons_zero, List.set_cons_succ]
        refine wpAnyH_take (i := 23) (v := ?_) rfl (by kernel_rfl) (by kernel_rfl) (by kernel_rfl) (fun _ _ _ h => h) (Or.inl ⟨by rfl, ?_⟩) (by assumption) ?_
        rotate_left
        · (intro wz hSz; (try dsimp only at hSz); go_simp) <;> with_reducible rfl
        simp only [Act.put, List.getElem_toArray, List.getElem_cons_zero, List.getElem_cons_succ, List.setIfInBounds_toArray, List.set_cons_zero, List.set_cons_succ]
        refine wpAnyH_take (i := 24) (v := ?_) rfl (by kernel_rfl) (by kernel_rfl) (by kernel_rfl) (fun _ _ _ h => h) (Or.inl ⟨by rfl, ?_⟩) (by assumption) ?_
        rotate_left
        · (intro wz hSz; (try dsimp only at hSz); have sz0 := (hSz.cell (p := ⟨wr.heap.size, 0, none⟩) hXl).trans f0; have sz1 := (hSz.cell (p := ⟨wr.heap.size, 1, none⟩) hXl).trans f1; have sz2 := (hSz.cell (p := ⟨wr.heap.size, 2, none⟩) hXl).trans f2; go_simp) <;> with_reducible rfl
        simp only [Act.put, List.getElem_toArray, List.getElem_cons_zero, List.getElem_cons_succ, List.setIfInBounds_toArray, List.set_cons_zero, List.set_cons_succ]
        refine wpAnyH_ready (rs := [22]) (by kernel_rfl) (by simp) (AllReadyH.cons rfl (fun K hK => ?_) AllReadyH.nil)
        go_simp
        refine (Synced_at nm hD5 hns).mono ?_
        rw [hsy]
        rintro e w9 ⟨rfl, hb9⟩
        have hb59 : Below w5.drew.heap.size w5.drew w9 := hb9
        refine hK.out _ _ hb59 (fun hHeld => ?_)
        clear hK K
        (try simp only [Act.put, List.getElem_toArray, List.getElem_cons_zero, List.getElem_cons_succ, List.setIfInBounds_toArray, List.set_cons_zero, List.set_cons_succ])
        refine wpAnyH_take (i := 25) (v := ?_) rfl (by kernel_rfl) (by kernel_rfl) (by kernel_rfl) (fun _ _ _ h => h) (Or.inl ⟨by rfl, ?_⟩) (by assumption) ?_
        rotate_left
        · (intro wz hSz; (try dsimp only at hSz); go_simp) <;> with_reducible rfl
        simp only [Act.put, List.getElem_toArray, List.getElem_cons_zero, List.getElem_cons_succ, List.setIfInBounds_toArray, List.set_cons_zero, List.set_cons_succ]
        refine wpAnyH_take (i := 26) (v := ?_) rfl (by kernel_rfl) (by kernel_rfl) (by kernel_rfl) (fun _ _ _ h => h) (Or.inl ⟨by rfl, ?_⟩) (by assumption) ?_
        rotate_left
        · (intro wz hSz; (try dsimp only at hSz); go_simp) <;> with_reducible rfl
        simp only [Act.put, List.getElem_toArray, List.getElem_cons_zero, List.getElem_cons_succ, List.setIfInBounds_toArray, List.set_cons_zero, List.set_cons_succ]
        refine wpAnyH_take (i := 27) (v := ?_) rfl (by kernel_rfl) (by kernel_rfl) (by kernel_rfl) (fun _ _ _ h => h) (Or.inl ⟨by rfl, ?_⟩) (by assumption) ?_
        rotate_left
        · (intro wz hSz; (try dsimp only at hSz); go_simp) <;> with_reducible rfl
        simp only [Act.put, List.getElem_toArray, List.getElem_cons_zero, List.getElem_cons_succ, List.setIfInBounds_toArray, List.set_cons_zero, List.set_cons_succ]
        refine wpAnyH_take (i := 28) (v := ?_) rfl (by kernel_rfl) (by kernel_rfl) (by kernel_rfl) (fun _ _ _ h => h) (Or.inl ⟨by rfl, ?_⟩) (by assumption) ?_
        rotate_left
        · (intro wz hSz; (try dsimp only at hSz); go_simp) <;> with_reducible rfl
        simp only [Act.put, List.getElem_toArray, List.getElem_cons_zero, List.getElem_cons_succ, List.setIfInBounds_toArray, List.set_cons_zero, List.set_cons_succ]
        refine wpAnyH_take (i := 29) (v := ?_) rfl (by kernel_rfl) (by kernel_rfl) (by kernel_rfl) (fun _ _ _ h => h) (Or.inl ⟨by rfl, ?_⟩) (by assumption) ?_
        rotate_left
        · (intro wz hSz; (try dsimp only at hSz); go_simp) <;> with_reducible rfl
        simp only [Act.put, List.getElem_toArray, List.getElem_cons_zero, List.getElem_cons_succ, List.setIfInBounds_toArray, List.set_cons_zero, List.set_cons_succ]
        refine wpAnyH_take (i := 31) (v := ?_) rfl (by kernel_rfl) (by kernel_rfl) (by kernel_rfl) (fun _ _ _ h => h) (Or.inl ⟨by rfl, ?_⟩) (by assumption) ?_
        rotate_left
        · (intro wz hSz; (try dsimp only at hSz); go_simp) <;> with_reducible rfl
        simp only [Act.put, List.getElem_toArray, List.getElem_cons_zero, List.getElem_cons_succ, List.setIfInBounds_toArray, List.set_cons_zero, List.set_cons_succ]
        refine wpAnyH_take (i := 32) (v := ?_) rfl (by kernel_rfl) (by kernel_rfl) (by kernel_rfl) (fun _ _ _ h => h) (Or.inl ⟨by rfl, ?_⟩) (by assumption) ?_
        rotate_left
        · (intro wz hSz; (try dsimp only at hSz); have sz0 := (hSz.cell (p := ⟨wr.heap.size, 0, none⟩) hXl).trans f0; have sz1 := (hSz.cell (p := ⟨wr.heap.size, 1, none⟩) hXl).trans f1; have sz2 := (hSz.cell (p := ⟨wr.heap.size, 2, none⟩) hXl).trans f2; go_simp) <;> with_reducible rfl
        simp only [Act.put, List.getElem_toArray, List.getElem_cons_zero, List.getElem_cons_succ, List.setIfInBounds_toArray, List.set_cons_zero, List.set_cons_succ]
        refine wpAnyH_take (i := 33) (v := ?_) rfl (by kernel_rfl) (by kernel_rfl) (by kernel_rfl) (fun _ _ _ h => h) (Or.inl ⟨by rfl, ?_⟩) (by assumption) ?_
        rotate_left
        · (intro wz hSz; (try dsimp only at hSz); go_simp) <;> with_reducible rfl
        simp only [Act.put, List.getElem_toArray, List.getElem_cons_zero, List.getElem_cons_succ, List.setIfInBounds_toArray, List.set_cons_zero, List.set_cons_succ]
        refine wpAnyH_ready (rs := [30]) (by kernel_rfl) (by simp) (AllReadyH.cons rfl (fun K hK => ?_) AllReadyH.nil)
        go_simp
        refine (Size_at nm (hD5.below hb59) hns).mono ?_
        rw [hsi]
        rintro e w10 ⟨rfl, hb10⟩
        have hb510 : Below w5.drew.heap.size w5.drew w10 := hb59.trans (hb10.mono hb59.size)
        refine hK.out _ _ hb510 (fun hHeld => ?_)
        clear hK K
        (try simp only [Act.put, List.getElem_toArray, List.getElem_cons_zero, List.getElem_cons_succ, List.setIfInBounds_toArray, List.set_cons_zero, List.set_cons_succ])
        refine wpAnyH_take (i := 34) (v := ?_) rfl (by kernel_rfl) (by kernel_rfl) (by kernel_rfl) (fun _ _ _ h => h) (Or.inl ⟨by rfl, ?_⟩) (by assumption) ?_
        rotate_left
        · (intro wz hSz; (try dsimp only at hSz); go_simp) <;> with_reducible rfl
        simp only [Act.put, List.getElem_toArray, List.getElem_cons_zero, List.getElem_cons_succ, List.setIfInBounds_toArray, List.set_cons_zero, List.set_cons_succ]
        refine wpAnyH_take (i := 35) (v := ?_) rfl (by kernel_rfl) (by kernel_rfl) (by kernel_rfl) (fun _ _ _ h => h) (Or.inl ⟨by rfl, ?_⟩) (by assumption) ?_
        rotate_left
        · (intro wz hSz; (try dsimp only at hSz); go_simp) <;> with_reducible rfl
        simp only [Act.put, List.getElem_toArray, List.getElem_cons_zero, List.getElem_cons_succ, List.setIfInBounds_toArray, List.set_cons_zero, List.set_cons_succ]
        refine wpAnyH_take (i := 36) (v := ?_) rfl (by kernel_rfl) (by kernel_rfl) (by kernel_rfl) (fun _ _ _ h => h) (Or.inl ⟨by rfl, ?_⟩) (by assumption) ?_
        rotate_left
        · (intro wz hSz; (try dsimp only at hSz); go_simp) <;> with_reducible rfl
        simp only [Act.put, List.getElem_toArray, List.getElem_cons_zero, List.getElem_cons_succ, List.setIfInBounds_toArray, List.set_cons_zero, List.set_cons_succ]
        refine wpAnyH_done (by kernel_rfl) ?_ _
        have hbE := hb5.drew.trans (hb510.mono hb5.size)
        clear f0 f1 f2 q0 q1 q2 q3
        go_wp2
        go_roundw
        case rel => exact ⟨k + 1, by omega, by go_num, rfl, hbE, hb51.drew.trans (hb510.mono hb51.size)⟩
        case measure => simp [intOf]; omega
      · have he : findErr d nm = 0 := by simp [findErr, hdn, hlk]
        have hby : d.readBytes nm = f.firm ++ f.loose := by unfold ADisk.readBytes; rw [he, haf]; rfl
        rw [he, hby] at hR
        clear he hby
        have Hdn := Lib.hid hdn
        clear hdn
        go_wp2_with fail
        refine hR.mono ?_
        rintro e w5 ⟨ra, rc, rfl, hrow5, hb45⟩
        have hb5 := hbw4.trans (hb45.mono hbw4.size)
        have hb51 := hbw41.trans (hb45.mono hbw41.size)
        have hD5 : DiskAt ex w5.drew p m d := (hd4.below hb45).drew
        have hDr5 := (hb45.block _ (blk_lt hD4)).trans hD4
        have hX5 := (hb45.block _ (blk_lt hX4)).trans hX4
        have hrb0 : Rd w5 (.slice ra (f.firm ++ f.loose).length rc) (bcells (f.firm ++ f.loose)) := Rd.ofOwns hrow5
        have hrb : Rd w5.drew (.slice ra (f.firm.length + f.loose.length) rc) (bcells (f.firm ++ f.loose)) := by rw [List.length_append] at hrb0; exact hrb0
        have hrf : Rd w5.drew (.slice avb (f.firm.length + f.loose.length) cvb) (bcells (f.firm ++ f.loose)) := rd_low hrf4 hb45.drew
        obtain ⟨q0, q1, q2, q3, _⟩ := cells4 hDr5
        obtain ⟨f0, f1, f2, _⟩ := cells3 hX5
        rw [Hdn.out] at q3
        have hDl : w.heap.size < w5.drew.heap.size := blk_lt hDr5
        have hXl : wr.heap.size < w5.drew.heap.size := blk_lt hX5
        clear hR hrb0 hrow5
        dsimp only
        go_wp2_with fail
        refine wp_region_held_drew (S := fun w' => Below w5.drew.heap.size w5.drew w') (by kernel_rfl) (Below.refl _ _) (fun hHeld => ?_)
        refine wpAnyH_take (i := 0) (v := ?_) rfl (by kernel_rfl) (by kernel_rfl) (by kernel_rfl) (fun _ _ _ h => h) (Or.inl ⟨by rfl, ?_⟩) (by assumption) ?_
        rotate_left
        · (intro wz hSz; (try dsimp only at hSz); go_simp) <;> with_reducible rfl
        simp only [Act.put, List.getElem_toArray, List.getElem_cons_zero, List.getElem_cons_succ, List.setIfInBounds_toArray, List.set_cons_zero, List.set_cons_succ]
        refine wpAnyH_take (i := 1) (v := ?_) rfl (by kernel_rfl) (by kernel_rfl) (by kernel_rfl) (fun _ _ _ h => h) (Or.inl ⟨by rfl, ?_⟩) (by assumption) ?_
        rotate_left
        · (intro wz hSz; (try dsimp only at hSz); go_simp) <;> with_reducible rfl
        simp only [Act.put, List.getElem_toArray, List.getElem_cons_zero, List.getElem_cons_succ, List.setIfInBounds_toArray, List.set_cons_zero, List.set_cons_succ]
        refine wpAnyH_take (i := 2) (v := ?_) rfl (by kernel_rfl) (by kernel_rfl) (by kernel_rfl) (fun _ _ _ h => h) (Or.inl ⟨by rfl, ?_⟩) (by assumption) ?_
        rotate_left
        · (intro wz hSz; (try dsimp only at hSz); have sz0 := (hSz.cell (p := ⟨wr.heap.size, 0, none⟩) hXl).trans f0; have sz1 := (hSz.cell (p := ⟨wr.heap.size, 1, none⟩) hXl).trans f1; have sz2 := (hSz.cell (p := ⟨wr.heap.size, 2, none⟩) hXl).trans f2; go_simp) <;> with_reducible rfl
        simp only [Act.put, List.getElem_toArray, List.getElem_cons_zero, List.getElem_cons_succ, List.setIfInBounds_toArray, List.set_cons_zero, List.set_cons_succ]
        refine wpAnyH_take (i := 3) (v := ?_) rfl (by kernel_rfl) (by kernel_rfl) (by kernel_rfl) (fun _ _ _ h => h) (Or.inl ⟨by rfl, ?_⟩) (by assumption) ?_
        rotate_left
        · (intro wz hSz; (try dsimp only at hSz); go_simp) <;> with_reducible rfl
        simp only [Act.put, List.getElem_toArray, List.getElem_cons_zero, List.getElem_cons_succ, List.setIfInBounds_toArray, List.set_cons_zero, List.set_cons_succ]
        refine wpAnyH_take (i := 4) (v := ?_) rfl (by kernel_rfl) (by kernel_rfl) (by kernel_rfl) (fun _ _ _ h => h) (Or.inl ⟨by rfl, ?_⟩) (by assumption) ?_
        rotate_left
        · (intro wz hSz; (try dsimp only at hSz); go_simp) <;> with_reducible rfl
        simp only [Act.put, List.getElem_toArray, List.getElem_cons_zero, List.getElem_cons_succ, List.setIfInBounds_toArray, List.set_cons_zero, List.set_cons_succ]
        refine wpAnyH_take (i := 5) (v := ?_) rfl (by kernel_rfl) (by kernel_rfl) (by kernel_rfl) (fun _ _ _ h => h) (Or.inl ⟨by rfl, ?_⟩) (by assumption) ?_
        rotate_left
        · (intro wz hSz; (try dsimp only at hSz); go_simp) <;> with_reducible rfl
        simp only [Act.put, List.getElem_toArray, List.getElem_cons_zero, List.getElem_cons_succ, List.setIfInBounds_toArray, List.set_cons_zero, List.set_cons_succ]
        refine wpAnyH_take (i := 6) (v := ?_) rfl (by kernel_rfl) (by kernel_rfl) (by kernel_rfl) (fun _ _ _ h => h) (Or.inl ⟨by rfl, ?_⟩) (by assumption) ?_
        rotate_left
        · (intro wz hSz; (try dsimp only at hSz); go_simp) <;> with_reducible rfl
        simp only [Act.put, List.getElem_toArray, List.getElem_cons_zero, List.getElem_cons_succ, List.setIfInBounds_toArray, List.set_cons_zero, List.set_cons_succ]
        refine wpAnyH_take (i := 7) (v := ?_) rfl (by kernel_rfl) (by kernel_rfl) (by kernel_rfl) (fun _ _ _ h => h) (Or.inl ⟨by rfl, ?_⟩) (by assumption) ?_
        rotate_left
        · (intro wz hSz; (try dsimp only at hSz); have sd3 := (hSz.cell (p := ⟨w.heap.size, 3, none⟩) hDl).trans q3; go_simp) <;> with_reducible rfl
        simp only [Act.put, List.getElem_toArray, List.getElem_cons_zero, List.getElem_cons_succ, List.setIfInBounds_toArray, List.set_cons_zero, List.set_cons_succ]
        refine wpAnyH_take (i := 8) (v := ?_) rfl (by kernel_rfl) (by kernel_rfl) (by kernel_rfl) (fun _ _ _ h => h) (Or.inl ⟨by rfl, ?_⟩) (by assumption) ?_
        rotate_left
        · (intro wz hSz; (try dsimp only at hSz); go_simp) <;> with_reducible rfl
        simp only [Act.put, List.getElem_toArray, List.getElem_cons_zero, List.getElem_cons_succ, List.setIfInBounds_toArray, List.set_cons_zero, List.set_cons_succ]
        refine wpAnyH_take (i := 9) (v := ?_) rfl (by kernel_rfl) (by kernel_rfl) (by kernel_rfl) (fun _ _ _ h => h) (Or.inl ⟨by rfl, ?_⟩) (by assumption) ?_
        rotate_left
        · (intro wz hSz; (try dsimp only at hSz); go_simp) <;> with_reducible rfl
        simp only [Act.put, List.getElem_toArray, List.getElem_cons_zero, List.getElem_cons_succ, List.setIfInBounds_toArray, List.set_cons_zero, List.set_cons_succ]
        refine wpAnyH_take (i := 10) (v := ?_) rfl (by kernel_rfl) (by kernel_rfl) (by kernel_rfl) (fun _ _ _ h => h) (Or.inl ⟨by rfl, ?_⟩) (by assumption) ?_
        rotate_left
        · (intro wz hSz; (try dsimp only at hSz); go_simp) <;> with_reducible rfl
        simp only [Act.put, List.getElem_toArray, List.getElem_cons_zero, List.getElem_cons_succ, List.setIfInBounds_toArray, List.set_cons_zero, List.set_cons_succ]
        refine wpAnyH_take (i := 11) (v := ?_) rfl (by kernel_rfl) (by kernel_rfl) (by kernel_rfl) (fun _ _ _ h => h) (Or.inl ⟨by rfl, ?_⟩) (by assumption) ?_
        rotate_left
        · (intro wz hSz; (try dsimp only at hSz); go_simp) <;> with_reducible rfl
        simp only [Act.put, List.getElem_toArray, List.getElem_cons_zero, List.getElem_cons_succ, List.setIfInBounds_toArray, List.set_cons_zero, List.set_cons_succ]
        refine wpAnyH_take (i := 12) (v := ?_) rfl (by kernel_rfl) (by kernel_rfl) (by kernel_rfl) (fun _ _ _ h => h) (Or.inl ⟨by rfl, ?_⟩) (by assumption) ?_
        rotate_left
        · (intro wz hSz; (try dsimp only at hSz); go_simp) <;> with_reducible rfl
        simp only [Act.put, List.getElem_toArray, List.getElem_cons_zero, List.getElem_cons_succ, List.setIfInBounds_toArray, List.set_cons_zero, List.set_cons_succ]
        refine wpAnyH_take (i := 13) (v := ?_) rfl (by kernel_rfl) (by kernel_rfl) (by kernel_rfl) (fun _ _ _ h => h) (Or.inl ⟨by rfl, ?_⟩) (by assumption) ?_
        rotate_left
        · (intro wz hSz; (try dsimp only at hSz); go_simp) <;> with_reducible rfl
        simp only [Act.put, List.getElem_toArray, List.getElem_cons_zero, List.getElem_cons_succ, List.setIfInBounds_toArray, List.set_cons_zero, List.set_cons_succ]
        refine wpAnyH_take (i := 14) (v := ?_) rfl (by kernel_rfl) (by kernel_rfl) (by kernel_rfl) (fun _ _ _ h => h) (Or.inl ⟨by rfl, ?_⟩) (by assumption) ?_
        rotate_left
        · (intro wz hSz; (try dsimp only at hSz); go_simp) <;> with_reducible rfl
        simp only [Act.put, List.getElem_toArray, List.getElem_cons_zero, List.getElem_cons_succ, List.setIfInBounds_toArray, List.set_cons_zero, List.set_cons_succ]
        refine wpAnyH_take (i := 15) (v := ?_) rfl (by kernel_rfl) (by kernel_rfl) (by kernel_rfl) (fun _ _ _ h => h) (Or.inl ⟨by rfl, ?_⟩) (by assumption) ?_
        rotate_left
        · (intro wz hSz; (try dsimp only at hSz); have sz0 := (hSz.cell (p := ⟨wr.heap.size, 0, none⟩) hXl).trans f0; have sz1 := (hSz.cell (p := ⟨wr.heap.size, 1, none⟩) hXl).trans f1; have sz2 := (hSz.cell (p := ⟨wr.heap.size, 2, none⟩) hXl).trans f2; go_simp) <;> with_reducible rfl
        simp only [Act.put, List.getElem_toArray, List.getElem_cons_zero, List.getElem_cons_succ, List.setIfInBounds_toArray, List.set_cons_zero, List.set_cons_succ]
        refine wpAnyH_ready (rs := [16]) (by kernel_rfl) (by simp) (AllReadyH.cons rfl (fun K hK => ?_) AllReadyH.nil)
        go_simp
        refine (SameBytes_eq _ _ _ (f.firm ++ f.loose) hrb hrf).mono ?_
        rintro e w8 ⟨rfl, rfl⟩
        refine hK.out _ _ (Below.refl _ _) (fun hHeld => ?_)
        clear hK K
        (try simp only [Act.put, List.getElem_toArray, List.getElem_cons_zero, List.getElem_cons_succ, List.setIfInBounds_toArray, List.set_cons_zero, List.set_cons_succ])
        refine wpAnyH_take (i := 17) (v := ?_) rfl (by kernel_rfl) (by kernel_rfl) (by kernel_rfl) (fun _ _ _ h => h) (Or.inl ⟨by rfl, ?_⟩) (by assumption) ?_
        rotate_left
        · (intro wz hSz; (try dsimp only at hSz); go_simp) <;> with_reducible rfl
        simp only [Act.put, List.getElem_toArray, List.getElem_cons_zero, List.getElem_cons_succ, List.setIfInBounds_toArray, List.set_cons_zero, List.set_cons_succ]
        refine wpAnyH_take (i := 18) (v := ?_) rfl (by kernel_rfl) (by kernel_rfl) (by kernel_rfl) (fun _ _ _ h => h) (Or.inl ⟨by rfl, ?_⟩) (by assumption) ?_
        rotate_left
        · (intro wz hSz; (try dsimp only at hSz); go_simp) <;> with_reducible rfl
        simp only [Act.put, List.getElem_toArray, List.getElem_cons_zero, List.getElem_cons_succ, List.setIfInBounds_toArray, List.set_cons_zero, List.set_cons_succ]
        refine wpAnyH_take (i := 19) (v := ?_) rfl (by kernel_rfl) (by kernel_rfl) (by kernel_rfl) (fun _ _ _ h => h) (Or.inl ⟨by rfl, ?_⟩) (by assumption) ?_
        rotate_left
        · (intro wz hSz; (try dsimp only at hSz); go_simp) <;> with_reducible rfl
        simp only [Act.put, List.getElem_toArray, List.getElem_cons_zero, List.getElem_cons_succ, List.setIfInBounds_toArray, List.set_cons_zero, List.set_cons_succ]
        refine wpAnyH_take (i := 20) (v := ?_) rfl (by kernel_rfl) (by kernel_rfl) (by kernel_rfl) (fun _ _ _ h => h) (Or.inl ⟨by rfl, ?_⟩) (by assumption) ?_
        rotate_left
        · (intro wz hSz; (try dsimp only at hSz); go_simp) <;> with_reducible rfl
        simp only [Act.put, List.getElem_toArray, List.getElem_cons_zero, List.getElem_cons_succ, List.setIfInBounds_toArray, List.set_cons_zero, List.set_cons_succ]
        refine wpAnyH_take (i := 21) (v := ?_) rfl (by kernel_rfl) (by kernel_rfl) (by kernel_rfl) (fun _ _ _ h => h) (Or.inl ⟨by rfl, ?_⟩) (by assumption) ?_
        rotate_left
        · (intro wz hSz; (try dsimp only at hSz); go_simp) <;> with_reducible rfl
        simp only [Act.put, List.getElem_toArray, List.getElem_cons_zero, List.getElem_cons_succ, List.setIfInBounds_toArray, List.set_cons_zero, List.set_cons_succ]
        refine wpAnyH_take (i := 23) (v := ?_) rfl (by kernel_rfl) (by kernel_rfl) (by kernel_rfl) (fun _ _ _ h => h) (Or.inl ⟨by rfl, ?_⟩) (by assumption) ?_
        rotate_left
        · (intro wz hSz; (try dsimp only at hSz); go_simp) <;> with_reducible rfl
        simp only [Act.put, List.getElem_toArray, List.getElem_cons_zero, List.getElem_cons_succ, List.setIfInBounds_toArray, List.set_cons_zero, List.set_cons_succ]
        refine wpAnyH_take (i := 24) (v := ?_) rfl (by kernel_rfl) (by kernel_rfl) (by kernel_rfl) (fun _ _ _ h => h) (Or.inl ⟨by rfl, ?_⟩) (by assumption) ?_
        rotate_left
        · (intro wz hSz; (try dsimp only at hSz); have sz0 := (hSz.cell (p := ⟨wr.heap.size, 0, none⟩) hXl).trans f0; have sz1 := (hSz.cell (p := ⟨wr.heap.size, 1, none⟩) hXl).trans f1; have sz2 := (hSz.cell (p := ⟨wr.heap.size, 2, none⟩) hXl).trans f2; go_simp) <;> with_reducible rfl
        simp only [Act.put, List.getElem_toArray, List.getElem_cons_zero, List.getElem_cons_succ, List.setIfInBounds_toArray, List.set_cons_zero, List.set_cons_succ]
        refine wpAnyH_ready (rs := [22]) (by kernel_rfl) (by simp) (AllReadyH.cons rfl (fun K hK => ?_) AllReadyH.nil)
        go_simp
        refine (Synced_at nm hD5 hns).mono ?_
        rw [hsy]
        rintro e w9 ⟨rfl, hb9⟩
        have hb59 : Below w5.drew.heap.size w5.drew w9 := hb9
        refine hK.out _ _ hb59 (fun hHeld => ?_)
        clear hK K
        (try simp only [Act.put, List.getElem_toArray, List.getElem_cons_zero, List.getElem_cons_succ, List.setIfInBounds_toArray, List.set_cons_zero, List.set_cons_succ])
        refine wpAnyH_take (i := 25) (v := ?_) rfl (by kernel_rfl) (by kernel_rfl) (by kernel_rfl) (fun _ _ _ h => h) (Or.inl ⟨by rfl, ?_⟩) (by assumption) ?_
        rotate_left
        · (intro wz hSz; (try dsimp only at hSz); go_simp) <;> with_reducible rfl
        simp only [Act.put, List.getElem_toArray, List.getElem_cons_zero, List.getElem_cons_succ, List.setIfInBounds_toArray, List.set_cons_zero, List.set_cons_succ]
        refine wpAnyH_take (i := 26) (v := ?_) rfl (by kernel_rfl) (by kernel_rfl) (by kernel_rfl) (fun _ _ _ h => h) (Or.inl ⟨by rfl, ?_⟩) (by assumption) ?_
        rotate_left
        · (intro wz hSz; (try dsimp only at hSz); go_simp) <;> with_reducible rfl
        simp only [Act.put, List.getElem_toArray, List.getElem_cons_zero, List.getElem_cons_succ, List.setIfInBounds_toArray, List.set_cons_zero, List.set_cons_succ]
        refine wpAnyH_take (i := 27) (v := ?_) rfl (by kernel_rfl) (by kernel_rfl) (by kernel_rfl) (fun _ _ _ h => h) (Or.inl ⟨by rfl, ?_⟩) (by assumption) ?_
        rotate_left
        · (intro wz hSz; (try dsimp only at hSz); go_simp) <;> with_reducible rfl
        simp only [Act.put, List.getElem_toArray, List.getElem_cons_zero, List.getElem_cons_succ, List.setIfInBounds_toArray, List.set_cons_zero, List.set_cons_succ]
        refine wpAnyH_take (i := 28) (v := ?_) rfl (by kernel_rfl) (by kernel_rfl) (by kernel_rfl) (fun _ _ _ h => h) (Or.inl ⟨by rfl, ?_⟩) (by assumption) ?_
        rotate_left
        · (intro wz hSz; (try dsimp only at hSz); go_simp) <;> with_reducible rfl
        simp only [Act.put, List.getElem_toArray, List.getElem_cons_zero, List.getElem_cons_succ, List.setIfInBounds_toArray, List.set_cons_zero, List.set_cons_succ]
        refine wpAnyH_take (i := 29) (v := ?_) rfl (by kernel_rfl) (by kernel_rfl) (by kernel_rfl) (fun _ _ _ h => h) (Or.inl ⟨by rfl, ?_⟩) (by assumption) ?_
        rotate_left
        · (intro wz hSz; (try dsimp only at hSz); go_simp) <;> with_reducible rfl
        simp only [Act.put, List.getElem_toArray, List.getElem_cons_zero, List.getElem_cons_succ, List.setIfInBounds_toArray, List.set_cons_zero, List.set_cons_succ]
        refine wpAnyH_take (i := 31) (v := ?_) rfl (by kernel_rfl) (by kernel_rfl) (by kernel_rfl) (fun _ _ _ h => h) (Or.inl ⟨by rfl, ?_⟩) (by assumption) ?_
        rotate_left
        · (intro wz hSz; (try dsimp only at hSz); go_simp) <;> with_reducible rfl
        simp only [Act.put, List.getElem_toArray, List.getElem_cons_zero, List.getElem_cons_succ, List.setIfInBounds_toArray, List.set_cons_zero, List.set_cons_succ]
        refine wpAnyH_take (i := 32) (v := ?_) rfl (by kernel_rfl) (by kernel_rfl) (by kernel_rfl) (fun _ _ _ h => h) (Or.inl ⟨by rfl, ?_⟩) (by assumption) ?_
        rotate_left
        · (intro wz hSz; (try dsimp only at hSz); have sz0 := (hSz.cell (p := ⟨wr.heap.size, 0, none⟩) hXl).trans f0; have sz1 := (hSz.cell (p := ⟨wr.heap.size, 1, none⟩) hXl).trans f1; have sz2 := (hSz.cell (p := ⟨wr.heap.size, 2, none⟩) hXl).trans f2; go_simp) <;> with_reducible rfl
        simp only [Act.put, List.getElem_toArray, List.getElem_cons_zero, List.getElem_cons_succ, List.setIfInBounds_toArray, List.set_cons_zero, List.set_cons_succ]
        refine wpAnyH_take (i := 33) (v := ?_) rfl (by kernel_rfl) (by kernel_rfl) (by kernel_rfl) (fun _ _ _ h => h) (Or.inl ⟨by rfl, ?_⟩) (by assumption) ?_
        rotate_left
        · (intro wz hSz; (try dsimp only at hSz); go_simp) <;> with_reducible rfl
        simp only [Act.put, List.getElem_toArray, List.getElem_cons_zero, List.getElem_cons_succ, List.setIfInBounds_toArray, List.set_cons_zero, List.set_cons_succ]
        refine wpAnyH_ready (rs := [30]) (by kernel_rfl) (by simp) (AllReadyH.cons rfl (fun K hK => ?_) AllReadyH.nil)
        go_simp
        refine (Size_at nm (hD5.below hb59) hns).mono ?_
        rw [hsi]
        rintro e w10 ⟨rfl, hb10⟩
        have hb510 : Below w5.drew.heap.size w5.drew w10 := hb59.trans (hb10.mono hb59.size)
        refine hK.out _ _ hb510 (fun hHeld => ?_)
        clear hK K
        (try simp only [Act.put, List.getElem_toArray, List.getElem_cons_zero, List.getElem_cons_succ, List.setIfInBounds_toArray, List.set_cons_zero, List.set_cons_succ])
        refine wpAnyH_take (i := 34) (v := ?_) rfl (by kernel_rfl) (by kernel_rfl) (by kernel_rfl) (fun _ _ _ h => h) (Or.inl ⟨by rfl, ?_⟩) (by assumption) ?_
        rotate_left
        · (intro wz hSz; (try dsimp only at hSz); go_simp) <;> with_reducible rfl
        simp only [Act.put, List.getElem_toArray, List.getElem_cons_zero, List.getElem_cons_succ, List.setIfInBounds_toArray, List.set_cons_zero, List.set_cons_succ]
        refine wpAnyH_take (i := 35) (v := ?_) rfl (by kernel_rfl) (by kernel_rfl) (by kernel_rfl) (fun _ _ _ h => h) (Or.inl ⟨by rfl, ?_⟩) (by assumption) ?_
        rotate_left
        · (intro wz hSz; (try dsimp only at hSz); go_simp) <;> with_reducible rfl
        simp only [Act.put, List.getElem_toArray, List.getElem_cons_zero, List.getElem_cons_succ, List.setIfInBounds_toArray, List.set_cons_zero, List.set_cons_succ]
        refine wpAnyH_take (i := 36) (v := ?_) rfl (by kernel_rfl) (by kernel_rfl) (by kernel_rfl) (fun _ _ _ h => h) (Or.inl ⟨by rfl, ?_⟩) (by assumption) ?_
        rotate_left
        · (intro wz hSz; (try dsimp only at hSz); go_simp) <;> with_reducible rfl
        simp only [Act.put, List.getElem_toArray, List.getElem_cons_zero, List.getElem_cons_succ, List.setIfInBounds_toArray, List.set_cons_zero, List.set_cons_succ]
        refine wpAnyH_done (by kernel_rfl) ?_ _
        have hbE := hb5.drew.trans (hb510.mono hb5.size)
        clear f0 f1 f2 q0 q1 q2 q3
        go_wp2
        go_roundw
        case rel => exact ⟨k + 1, by omega, by go_num, rfl, hbE, hb51.drew.trans (hb510.mono hb51.size)⟩
        case measure => simp [intOf]; omega
    · go_wp2
      go_ret
      exact ⟨rfl, hbr⟩
end Go.Proofs.YtkacgmbinkoojaaGreatDoor
