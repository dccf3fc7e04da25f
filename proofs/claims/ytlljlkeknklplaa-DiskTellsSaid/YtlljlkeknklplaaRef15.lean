/-
  The document's disk: Crash.
-/
import Derived.Outline
import Derived.Deep.RegionLaw
import Derived.Deep.CutRange
import Derived.Deep.CutBlock
import Derived.IntWalk
import Derived.Deep.RegionHeld3
import Derived.Test.YtlljlkeknklplaaRef14
import Derived.Test.YtlljlkeknklplaaRef8
namespace Go.Proofs.Ytlljlkeknklplaa
open Go.RowKit Go.Maps Go.MapKept
variable {X : Nat → Prop}

set_option linter.unusedSimpArgs false
/-- a row of files that is made, apart from their bytes. -/
structure CrashRow (X : Nat → Prop) (base : Nat) (w : World) (a : Option Addr) (k c : Nat) (xs : List REnt) : Prop where
  own : w.ownsRow base 107 3 (.slice a k c) k (flatR xs)
  len : k = xs.length
  ok : ∀ x ∈ xs, x.ok X w ∧ ∀ g, x.v.ownBlock = some g → base ≤ g ∧ g < w.heap.size ∧ (Value.slice a k c).ownBlock ≠ some g

theorem CrashRow.next {base T : Nat} {wr w8 w9 w10 : World} {a1 : Option Addr} {k c1 : Nat} {xs : List REnt} {e8 : REnt} {a8 N g cap : Nat} (hC : CrashRow X base wr a1 k c1 xs) (hb8 : Below wr.heap.size wr w8) (hU9 : Upd (fun j => (Value.slice a1 k c1).ownBlock = some j) w8 w9)
    (hU10 : Upd (fun j => j = T) w9 w10) (hT : T < base) (hbase : base ≤ wr.heap.size) (hown : w9.ownsRow base 107 3 (.slice (some ⟨g, 0, none⟩) (k + 1) cap) (xs ++ [e8]).length (flatR (xs ++ [e8]))) (hat : (Value.slice a1 k c1).ownBlock = some g ∨ g = w8.heap.size)
    (hv : e8.v = .slice (some ⟨a8, 0, none⟩) N N) (ha8 : wr.heap.size ≤ a8) (ha8' : a8 < w8.heap.size) (hok8 : e8.ok X w8) : CrashRow X base w10 (some ⟨g, 0, none⟩) (k + 1) cap (xs ++ [e8]) := by
  have hl : k + 1 = (xs ++ [e8]).length := by rw [List.length_append, ← hC.len]; rfl
  have hownlt : ∀ j, (Value.slice a1 k c1).ownBlock = some j → base ≤ j ∧ j < wr.heap.size := fun j hj => hC.own.lt j hj
  have hs8 := hb8.size
  have hs9 := hU9.size
  have hs10 := hU10.size
  refine ⟨?_, hl, fun x hx => ?_⟩
  · have := hU10.row hown (fun j hj e => by have := (hown.lt j hj).1; omega)
    rw [hl]
    rw [hl] at this
    exact this
  · have key : x.ok X w8 ∧ ∀ j, x.v.ownBlock = some j → base ≤ j ∧ j < w8.heap.size ∧ (Value.slice a1 k c1).ownBlock ≠ some j := by
      rcases List.mem_append.1 hx with hx | hx
      · obtain ⟨h1, h2⟩ := hC.ok x hx
        exact ⟨h1.below hb8, fun j hj => by obtain ⟨p1, p2, p3⟩ := h2 j hj; exact ⟨p1, by omega, p3⟩⟩
      · rw [List.mem_singleton.1 hx]
        refine ⟨hok8, fun j hj => ?_⟩
        rw [hv] at hj
        have hj' : a8 = j := by simpa [Value.ownBlock] using hj
        subst hj'
        exact ⟨by omega, ha8', fun e => by have := (hownlt _ e).2; omega⟩
    obtain ⟨k1, k2⟩ := key
    refine ⟨?_, fun j hj => ?_⟩
    · have h9 : x.ok X w9 := ⟨Rd.upd k1.1 hU9 (fun j hj => ⟨(k2 j hj).2.1, (k2 j hj).2.2⟩), k1.2⟩
      exact ⟨Rd.upd h9.1 hU10 (fun j hj => ⟨by have := (k2 j hj).2.1; omega, fun e => by have := (k2 j hj).1; omega⟩), h9.2⟩
    · obtain ⟨p1, p2, p3⟩ := k2 j hj
      refine ⟨p1, by omega, fun e => ?_⟩
      have e' : g = j := by simpa [Value.ownBlock] using e
      subst e'
      rcases hat with e | e
      · exact p3 e
      · omega

/-- one file more, at a step of a region that draws. -/
theorem step_append_file {w : World} {ops : Array Oper} {o : Oper} {a : Act} {K : Act → World → Prop} {Q : Exit → Act → World → Prop} {E : Prop} (hgd : o.guard = none) (s x : Operand)
    (ho : o.op = .call { callee := .builtin .append, args := #[s, x], argTypes := #[41, 41] })
    (base : Nat) (v : Value) (xs : List REnt) (e : REnt) (B m c : Nat) (hm : m = 1) (hs : a.eval s = v) (hown : w.ownsRow base 107 3 v xs.length (flatR xs)) (hx : a.eval x = .slice (some ⟨B, 0, none⟩) m c) (hB : w.heap[B]? = some (.cells ⟨e.cells⟩ 107))
    (h1 : e.v.oneCell' = true) (hl : xs.length ≤ 100000) (hbase : base ≤ w.heap.size) (n' : Nat) (hn' : xs.length + m = n') (H : Nat) (hH : w.heap.size = H)
    (h : ∀ g cap w', w'.ownsRow base 107 3 (.slice (some ⟨g, 0, none⟩) n' cap) (xs ++ [e]).length (flatR (xs ++ [e])) → w.grownBy w' v.ownBlock → (v.ownBlock = some g ∨ g = H) → K (a.put o.dst (.slice (some ⟨g, 0, none⟩) n' cap)) w') :
    if Region.wanted o (yielded ops a.tmps) = true then Oper.wp Try.prog o a w K Q else E := by
  subst hm hn'
  obtain ⟨i0, hi, hz0, hz1, hz2⟩ := info_parts info_RFile
  refine step_append_lies (P := Try.prog) _ hgd s x 41 ho base 107 i0 (.agg #[.string ⟨#[]⟩, .slice none 0 0, .int .i64 0]) 3 48 Try.underlying41 hi hz0 hz1 hz2 rfl (by omega) v xs.length (flatR xs) hs hown ⟨B, 0, none⟩ 1 c e.cells hx rfl (World.news_of_block hB) ?_ (by omega) (by simp only [maxLen]; omega) (by omega) hbase H hH ?_
  · intro u hu
    simp only [REnt.cells, List.mem_cons, List.not_mem_nil, or_false] at hu
    rcases hu with rfl | rfl | rfl
    · rfl
    · exact h1
    · rfl
  · intro g cap w' h2 h3 h4 _
    refine h g cap w' ?_ h3 h4
    rw [flatR_append, flatR_one, List.length_append]
    exact h2

set_option maxRecDepth 100000 in
set_option maxHeartbeats 4000000 in
theorem refCrash_any (w : World) (a : Option Addr) (n c : Nat) (d : ADisk) (vk : Value) (keeps : List Int) (h : RefAt X w a n c d) (hw : d.WF) (hX : NewOk X w) (hrk : Rd w vk (iCells keeps)) (hki : ∀ x ∈ keeps, isI64 x) :
    Calls Try.prog 31 #[refVal a n c d, vk] w fun e w' => ∃ a' n' c', e = .returned (refVal a' n' c' (d.crash keeps)) ∧ RefAt X w' a' n' c' (d.crash keeps) ∧ Below w.heap.size w w' := by
  have hcfs := crash_fs hw keeps
  have hlenF : ∀ k (hk : k < d.fs.length), d.fs[k].2.firm.length + d.fs[k].2.loose.length ≤ 16777216 := fun k hk => by
    have h1 := lk_len_le (mem_lk hw.sorted (f := d.fs[k].2) (s := d.fs[k].1) (List.getElem_mem hk))
    have h2 := hw.used
    have h3 := hw.most1
    unfold AFile.len at h1
    omega
  obtain ⟨es, hes, hok, hat⟩ := h.ents
  have hcnt := hw.count
  have hn : n = es.length := by rw [h.len, ← hes, List.length_map]
  subst hn
  have hcnt' : es.length ≤ 200 := by rw [← hes, List.length_map] at hcnt; exact hcnt
  obtain ⟨ak, ck, rfl⟩ := hrk.shape
  have hicl : (iCells keeps).length = keeps.length := by simp [iCells]
  rw [hicl] at hrk ⊢
  have hdc : d.crash keeps = ⟨d.most, -1, false, crashE d.fs keeps d.fs.length⟩ := by rw [← hcfs]; rfl
  rw [hdc]
  obtain ⟨most, left, down, fs⟩ := d
  simp only at hes hlenF hcnt ⊢
  unfold refVal
  simp only
  have Hes := Lib.hid hes
  have Hok := Lib.hid hok
  have HlenF := Lib.hid hlenF
  clear hes hok h hw hcnt hdc hcfs hlenF hicl
  go_enter Try.func31, Try.ntmps31
  go_wp2_with fail
  have hD := alloc_old (alloc2_at0 w (.cells #[.int .i64 most, .slice a es.length c, .int .i64 left, .bool down] 43) (.cells #[.int .i64 0, .slice none 0 0, .int .i64 0, .bool false] 43)) (.cells #[.int .i64 most, .slice none 0 0, .int .i64 (-1), .bool false] 43)
  have hR := alloc_old (alloc2_at w (.cells #[.int .i64 most, .slice a es.length c, .int .i64 left, .bool down] 43) (.cells #[.int .i64 0, .slice none 0 0, .int .i64 0, .bool false] 43)) (.cells #[.int .i64 most, .slice none 0 0, .int .i64 (-1), .bool false] 43)
  have hT := alloc_at ((w.alloc (.cells #[.int .i64 most, .slice a es.length c, .int .i64 left, .bool down] 43)).alloc (.cells #[.int .i64 0, .slice none 0 0, .int .i64 0, .bool false] 43)) (.cells #[.int .i64 most, .slice none 0 0, .int .i64 (-1), .bool false] 43)
  have hB : Below w.heap.size w (((w.alloc (.cells #[.int .i64 most, .slice a es.length c, .int .i64 left, .bool down] 43)).alloc (.cells #[.int .i64 0, .slice none 0 0, .int .i64 0, .bool false] 43)).alloc (.cells #[.int .i64 most, .slice none 0 0, .int .i64 (-1), .bool false] 43)) := (((Below.refl _ _).alloc (Nat.le_refl _) _).alloc (by simp) _).alloc (by simp; omega) _
  have hsz : (((w.alloc (.cells #[.int .i64 most, .slice a es.length c, .int .i64 left, .bool down] 43)).alloc (.cells #[.int .i64 0, .slice none 0 0, .int .i64 0, .bool false] 43)).heap.size) = w.heap.size + 1 + 1 := by simp
  rw [hsz] at hT
  clear hsz
  obtain ⟨W, hW⟩ : ∃ W, ((w.alloc (.cells #[.int .i64 most, .slice a es.length c, .int .i64 left, .bool down] 43)).alloc (.cells #[.int .i64 0, .slice none 0 0, .int .i64 0, .bool false] 43)).alloc (.cells #[.int .i64 most, .slice none 0 0, .int .i64 (-1), .bool false] 43) = W := ⟨_, rfl⟩
  rw [hW] at hD hR hT hB ⊢
  clear hW
  go_loopw [6] (fun i wr => ∃ (k : Nat) (a1 : Option Addr) (c1 : Nat) (xs : List REnt), k ≤ es.length ∧ i = .int .i64 k ∧ CrashRow X (w.heap.size + 3) wr a1 k c1 xs ∧ xs.map REnt.plain = crashE fs keeps k ∧
      wr.heap[w.heap.size]? = some (.cells #[.int .i64 most, .slice a es.length c, .int .i64 left, .bool down] 43) ∧ wr.heap[w.heap.size + 1]? = some (.cells #[.int .i64 0, .slice none 0 0, .int .i64 0, .bool false] 43) ∧ wr.heap[w.heap.size + 1 + 1]? = some (.cells #[.int .i64 most, .slice a1 k c1, .int .i64 (-1), .bool false] 43) ∧ Below w.heap.size w wr) (fun i _ => es.length - (intOf i).toNat)
  case atStart => exact ⟨0, none, 0, [], by omega, rfl, ⟨World.ownsRow_nil _ _ _ _, rfl, fun x hx => by cases hx⟩, by simp [crashE], hD, hR, hT, hB⟩
  case round =>
    obtain ⟨k, a1, c1, xs, hk, rfl, hC, hxs, hDr, hRr, hTr, hbr⟩ := hrel
    clear hD hR hT hB
    have Hxs := Lib.hid hxs
    clear hxs
    obtain ⟨x0, x1, x2, x3, x4, x5, x6, x7⟩ := cells4 hDr
    obtain ⟨t0, t1, t2, t3, t4, t5, t6, t7⟩ := cells4 hTr
    obtain ⟨r0, r1, r2, r3, r4, r5, r6, r7⟩ := cells4 hRr
    have hTl := blk_lt hTr
    by_cases hlt : k < es.length
    · obtain ⟨b, off, rfl, hc⟩ := hat k hlt
      have hcc : ∀ j u, es[k].cells[j]? = some u → wr.cell? ⟨b, off + k * 3 + j, none⟩ = some u := fun j u hu => (hbr.cell (p := ⟨b, off + k * 3 + j, none⟩) (cell_lt (hc j u hu))).trans (hc j u hu)
      have hoky := Hok.out es[k] (List.getElem_mem hlt)
      have hfk : fs[k]? = some (es[k].name, es[k].f) := by rw [← Hes.out, List.getElem?_map, List.getElem?_eq_getElem hlt]; rfl
      obtain ⟨y, hy⟩ : ∃ y, es[k] = y := ⟨_, rfl⟩
      rw [hy] at hcc hoky hfk
      obtain ⟨nm, vb, f⟩ := y
      have hokb : Rd w vb (bcells (f.firm ++ f.loose)) := hoky.1
      clear hoky
      obtain ⟨avb, cvb, rfl⟩ := hokb.shape
      rw [bcells_length, List.length_append] at hokb hcc
      have c0 := hcc 0 _ rfl
      rw [Nat.add_zero] at c0
      have c1' := hcc 1 _ rfl
      have c2' := hcc 2 _ rfl
      obtain ⟨hkf, hfe⟩ := List.getElem?_eq_some_iff.1 hfk
      have hfl := HlenF.out k hkf
      have hsucc := crashE_succ fs keeps k hkf
      rw [hfe] at hfl hsucc
      simp only at hfl hsucc
      have Hsucc := Lib.hid hsucc
      clear hsucc hfk hfe hcc
      have hbl := cell_lt c0
      go_upto_region 7 with fail
      have hNX := hX
      have hX := alloc_at wr (.cells #[.string nm, .slice avb (f.firm.length + f.loose.length) cvb, .int .i64 (f.firm.length : Nat)] 107)
      have hbX : Below wr.heap.size wr (wr.alloc (.cells #[.string nm, .slice avb (f.firm.length + f.loose.length) cvb, .int .i64 (f.firm.length : Nat)] 107)) := (Below.refl _ _).alloc (Nat.le_refl _) _
      have hsX : (wr.alloc (.cells #[.string nm, .slice avb (f.firm.length + f.loose.length) cvb, .int .i64 (f.firm.length : Nat)] 107)).heap.size = wr.heap.size + 1 := by simp
      obtain ⟨w6, hw6⟩ : ∃ w6, wr.alloc (.cells #[.string nm, .slice avb (f.firm.length + f.loose.length) cvb, .int .i64 (f.firm.length : Nat)] 107) = w6 := ⟨_, rfl⟩
      rw [hw6] at hX hbX hsX ⊢
      clear hw6
      have hb6 := hbr.trans (hbX.mono hbr.size)
      obtain ⟨f0, f1, f2, f3, f4, f5⟩ := cells3 hX
      have hwr : IntKind.i64.wrap (((f.firm.length : Int) + (f.loose.length : Int)) - (f.firm.length : Int)) = (f.loose.length : Int) := by rw [show ((f.firm.length : Int) + (f.loose.length : Int)) - (f.firm.length : Int) = (f.loose.length : Int) by omega]; exact IntWalk.i64_in _ (by omega)
      go_cut [41] from 26 to 73 (fun t wx => t = .bool (decide (k < keeps.length ∧ (f.loose.length : Int) ≤ keeps.getD k 0)) ∧ wx = w6.drew)
      case first =>
        by_cases hkk : k < keeps.length
        · obtain ⟨bk, ok, rfl, ek⟩ := hrk.at k (by rw [iCells_length]; exact hkk)
          simp only [iCells, List.getElem_map] at ek
          have ek6 := (hb6.cell (p := ⟨bk, ok + k, none⟩) (cell_lt ek)).trans ek
          have hg : keeps.getD k 0 = keeps[k] := by rw [List.getD_eq_getElem?_getD, List.getElem?_eq_getElem hkk]; rfl
          have hix := hki _ (List.getElem_mem hkk)
          obtain ⟨x, hx⟩ : ∃ x, keeps[k] = x := ⟨_, rfl⟩
          rw [hx] at ek6 hix hg
          have Hg := Lib.hid hg
          clear hx hg ek
          unfold isI64 at hix
          by_cases h1 : (f.loose.length : Int) ≤ x
          · refine wp_region_reads (by kernel_rfl) (by kernel_rfl) ?_
            repeat still_step
            refine wpStill_nil ?_
            go_wp2_with fail
            go_meet
            case rel => exact ⟨by rw [Hg.out]; simp [hkk, h1], rfl⟩
          · refine wp_region_reads (by kernel_rfl) (by kernel_rfl) ?_
            repeat still_step
            refine wpStill_nil ?_
            go_wp2_with fail
            go_meet
            case rel => exact ⟨by rw [Hg.out]; simp [hkk, h1], rfl⟩
        · have hkd : decide ((k : Int) < (keeps.length : Int)) = false := decide_eq_false (by omega)
          refine wp_region_held_drew (S := fun _ => True) (by kernel_rfl) trivial (fun hHeld => ?_)
          refine wpAnyH_take (i := 0) (v := ?_) rfl (by kernel_rfl) (by kernel_rfl) (by kernel_rfl) (fun _ _ _ h => h) (Or.inl ⟨by rfl, ?_⟩) (by assumption) ?_
          rotate_left
          · (intro wz hSz; go_simp) <;> with_reducible rfl
          simp only [Act.put, List.getElem_toArray, List.getElem_cons_zero, List.getElem_cons_succ, List.setIfInBounds_toArray, List.set_cons_zero, List.set_cons_succ]
          refine wpAnyH_take (i := 1) (v := ?_) rfl (by kernel_rfl) (by kernel_rfl) (by kernel_rfl) (fun _ _ _ h => h) (Or.inl ⟨by rfl, ?_⟩) (by assumption) ?_
          rotate_left
          · (intro wz hSz; go_simp) <;> with_reducible rfl
          simp only [Act.put, List.getElem_toArray, List.getElem_cons_zero, List.getElem_cons_succ, List.setIfInBounds_toArray, List.set_cons_zero, List.set_cons_succ]
          refine wpAnyH_take (i := 2) (v := ?_) rfl (by kernel_rfl) (by kernel_rfl) (by kernel_rfl) (fun _ _ _ h => h) (Or.inl ⟨by rfl, ?_⟩) (by assumption) ?_
          rotate_left
          · (intro wz hSz; go_simp) <;> with_reducible rfl
          simp only [Act.put, List.getElem_toArray, List.getElem_cons_zero, List.getElem_cons_succ, List.setIfInBounds_toArray, List.set_cons_zero, List.set_cons_succ]
          refine wpAnyH_take (i := 3) (v := ?_) rfl (by kernel_rfl) (by kernel_rfl) (by kernel_rfl) (fun _ _ _ h => h) (Or.inl ⟨by rfl, ?_⟩) (by assumption) ?_
          rotate_left
          · (intro wz hSz; go_simp) <;> with_reducible rfl
          simp only [Act.put, List.getElem_toArray, List.getElem_cons_zero, List.getElem_cons_succ, List.setIfInBounds_toArray, List.set_cons_zero, List.set_cons_succ]
          refine wpAnyH_take (i := 4) (v := ?_) rfl (by kernel_rfl) (by kernel_rfl) (by kernel_rfl) (fun _ _ _ h => h) (Or.inl ⟨by rfl, ?_⟩) (by assumption) ?_
          rotate_left
          · (intro wz hSz; go_simp) <;> with_reducible rfl
          simp only [Act.put, List.getElem_toArray, List.getElem_cons_zero, List.getElem_cons_succ, List.setIfInBounds_toArray, List.set_cons_zero, List.set_cons_succ]
          refine wpAnyH_take (i := 5) (v := undef) rfl (by kernel_rfl) (by kernel_rfl) (by kernel_rfl) (fun _ _ _ h => h) (Or.inr ⟨by rfl, rfl⟩) (by assumption) ?_
          simp only [Act.put, List.getElem_toArray, List.getElem_cons_zero, List.getElem_cons_succ, List.setIfInBounds_toArray, List.set_cons_zero, List.set_cons_succ]
          refine wpAnyH_take (i := 6) (v := undef) rfl (by kernel_rfl) (by kernel_rfl) (by kernel_rfl) (fun _ _ _ h => h) (Or.inr ⟨by rfl, rfl⟩) (by assumption) ?_
          simp only [Act.put, List.getElem_toArray, List.getElem_cons_zero, List.getElem_cons_succ, List.setIfInBounds_toArray, List.set_cons_zero, List.set_cons_succ]
          refine wpAnyH_take (i := 7) (v := undef) rfl (by kernel_rfl) (by kernel_rfl) (by kernel_rfl) (fun _ _ _ h => h) (Or.inr ⟨by rfl, rfl⟩) (by assumption) ?_
          simp only [Act.put, List.getElem_toArray, List.getElem_cons_zero, List.getElem_cons_succ, List.setIfInBounds_toArray, List.set_cons_zero, List.set_cons_succ]
          refine wpAnyH_take (i := 8) (v := undef) rfl (by kernel_rfl) (by kernel_rfl) (by kernel_rfl) (fun _ _ _ h => h) (Or.inr ⟨by rfl, rfl⟩) (by assumption) ?_
          simp only [Act.put, List.getElem_toArray, List.getElem_cons_zero, List.getElem_cons_succ, List.setIfInBounds_toArray, List.set_cons_zero, List.set_cons_succ]
          refine wpAnyH_take (i := 9) (v := undef) rfl (by kernel_rfl) (by kernel_rfl) (by kernel_rfl) (fun _ _ _ h => h) (Or.inr ⟨by rfl, rfl⟩) (by assumption) ?_
          simp only [Act.put, List.getElem_toArray, List.getElem_cons_zero, List.getElem_cons_succ, List.setIfInBounds_toArray, List.set_cons_zero, List.set_cons_succ]
          refine wpAnyH_take (i := 10) (v := undef) rfl (by kernel_rfl) (by kernel_rfl) (by kernel_rfl) (fun _ _ _ h => h) (Or.inr ⟨by rfl, rfl⟩) (by assumption) ?_
          simp only [Act.put, List.getElem_toArray, List.getElem_cons_zero, List.getElem_cons_succ, List.setIfInBounds_toArray, List.set_cons_zero, List.set_cons_succ]
          refine wpAnyH_take (i := 11) (v := undef) rfl (by kernel_rfl) (by kernel_rfl) (by kernel_rfl) (fun _ _ _ h => h) (Or.inr ⟨by rfl, rfl⟩) (by assumption) ?_
          simp only [Act.put, List.getElem_toArray, List.getElem_cons_zero, List.getElem_cons_succ, List.setIfInBounds_toArray, List.set_cons_zero, List.set_cons_succ]
          refine wpAnyH_take (i := 12) (v := undef) rfl (by kernel_rfl) (by kernel_rfl) (by kernel_rfl) (fun _ _ _ h => h) (Or.inr ⟨by rfl, rfl⟩) (by assumption) ?_
          simp only [Act.put, List.getElem_toArray, List.getElem_cons_zero, List.getElem_cons_succ, List.setIfInBounds_toArray, List.set_cons_zero, List.set_cons_succ]
          refine wpAnyH_take (i := 13) (v := undef) rfl (by kernel_rfl) (by kernel_rfl) (by kernel_rfl) (fun _ _ _ h => h) (Or.inr ⟨by rfl, rfl⟩) (by assumption) ?_
          simp only [Act.put, List.getElem_toArray, List.getElem_cons_zero, List.getElem_cons_succ, List.setIfInBounds_toArray, List.set_cons_zero, List.set_cons_succ]
          refine wpAnyH_take (i := 14) (v := undef) rfl (by kernel_rfl) (by kernel_rfl) (by kernel_rfl) (fun _ _ _ h => h) (Or.inr ⟨by rfl, rfl⟩) (by assumption) ?_
          simp only [Act.put, List.getElem_toArray, List.getElem_cons_zero, List.getElem_cons_succ, List.setIfInBounds_toArray, List.set_cons_zero, List.set_cons_succ]
          refine wpAnyH_take (i := 15) (v := ?_) rfl (by kernel_rfl) (by kernel_rfl) (by kernel_rfl) (fun _ _ _ h => h) (Or.inl ⟨by rfl, ?_⟩) (by assumption) ?_
          rotate_left
          · (intro wz hSz; go_simp) <;> with_reducible rfl
          simp only [Act.put, List.getElem_toArray, List.getElem_cons_zero, List.getElem_cons_succ, List.setIfInBounds_toArray, List.set_cons_zero, List.set_cons_succ]
          refine wpAnyH_done (by kernel_rfl) ?_ _
          go_wp2_with fail
          go_meet
          case rel => exact ⟨by simp [hkk], rfl⟩
      case rest =>
        obtain ⟨rfl, rfl⟩ := hcut
        obtain ⟨bb, hbb⟩ : ∃ bb, decide (k < keeps.length ∧ (f.loose.length : Int) ≤ keeps.getD k 0) = bb := ⟨_, rfl⟩
        rw [hbb]
        have Hbb := Lib.hid hbb
        clear hbb
        go_upto_if 41 with fail
        go_cut [8] from 42 to 73 (fun nv wx => nv = .int .i64 (keptN f (keeps.getD k 0) : Nat) ∧ wx = w6.drew)
        case first =>
          cases bb with
          | true =>
            have E := Lib.hid (keptN_all (of_decide_eq_true Hbb.out).2)
            go_wp2_with fail
            go_meet
            case rel => exact ⟨by rw [E.out]; go_num, rfl⟩
          | false =>
            have hnot := of_decide_eq_false Hbb.out
            by_cases hkk : k < keeps.length
            · obtain ⟨bk, ok, rfl, ek⟩ := hrk.at k (by rw [iCells_length]; exact hkk)
              simp only [iCells, List.getElem_map] at ek
              have ek6 := (hb6.cell (p := ⟨bk, ok + k, none⟩) (cell_lt ek)).trans ek
              have hg : keeps.getD k 0 = keeps[k] := by rw [List.getD_eq_getElem?_getD, List.getElem?_eq_getElem hkk]; rfl
              have hix := hki _ (List.getElem_mem hkk)
              obtain ⟨x, hx⟩ : ∃ x, keeps[k] = x := ⟨_, rfl⟩
              rw [hg] at hnot
              rw [hx] at ek6 hix hg hnot
              have hlx : x < (f.loose.length : Int) := by
                rcases Int.lt_or_le x (f.loose.length : Int) with h | h
                · exact h
                · exact absurd ⟨hkk, h⟩ hnot
              have Hg := Lib.hid hg
              clear hx hg ek hnot
              unfold isI64 at hix
              by_cases h0 : 0 < x
              · have E := Lib.hid (keptN_some hlx h0)
                go_wp2_with fail
                go_meet
                case rel => exact ⟨by rw [Hg.out, E.out], rfl⟩
              · have E := Lib.hid (keptN_none (f := f) (x := x) (by omega))
                go_wp2_with fail
                go_meet
                case rel => exact ⟨by rw [Hg.out, E.out], rfl⟩
            · have hg : keeps.getD k 0 = 0 := by rw [List.getD_eq_getElem?_getD, List.getElem?_eq_none (by omega)]; rfl
              have Hg := Lib.hid hg
              have E := Lib.hid (keptN_none (f := f) (x := 0) (by omega))
              clear hg hnot
              go_wp2_with fail
              go_meet
              case rel => exact ⟨by rw [Hg.out, E.out], rfl⟩
        case rest =>
          obtain ⟨rfl, rfl⟩ := hcut
          clear Hbb
          obtain ⟨x, hx⟩ : ∃ x, keeps.getD k 0 = x := ⟨_, rfl⟩
          rw [hx] at Hsucc ⊢
          clear hx
          have hKn := keptN_le f x
          have hkb : (f.kept x).firm ++ (f.kept x).loose = (f.firm ++ f.loose).take (keptN f x) := by rw [kept_eq]; simp
          have hkl2 : (f.kept x).firm.length = keptN f x := by rw [kept_eq]; simp; omega
          obtain ⟨N, hN⟩ : ∃ N, keptN f x = N := ⟨_, rfl⟩
          rw [hN] at hKn hkb hkl2 ⊢
          clear hN
          have Hkb := Lib.hid hkb
          have Hcell : Hid (∀ v : Value, REnt.cells ⟨nm, v, f.kept x⟩ = [.string nm, v, .int .i64 (N : Nat)]) := Lib.hid (fun v => by unfold REnt.cells; rw [hkl2])
          clear hkb hkl2
          have hF := fun (w : World) (hr : Rd w (.slice avb (f.firm.length + f.loose.length) cvb) (bcells (f.firm ++ f.loose))) => refFirst_at w nm _ (f.firm ++ f.loose) N N hr (by rw [List.length_append]; exact hKn) (by rw [List.length_append]; omega)
          have hrd6 : Rd w6.drew.drew (.slice avb (f.firm.length + f.loose.length) cvb) (bcells (f.firm ++ f.loose)) := rd_low hokb hb6.drew.drew
          have hT6 := (hbX.block _ (blk_lt hTr)).trans hTr
          obtain ⟨q0, q1, q2, q3, _⟩ := cells4 hT6
          have hFl : wr.heap.size < w6.drew.drew.heap.size := blk_lt hX
          have hTl6 : w.heap.size + 1 + 1 < w6.drew.drew.heap.size := blk_lt hT6
          have hownx : wr.ownsRow (w.heap.size + 3) 107 3 (.slice a1 k c1) xs.length (flatR xs) := by have h := hC.own; have e := hC.len; subst e; exact h
          clear x0 x1 x2 x3 x4 x5 x6 x7 t0 t1 t2 t3 t4 t5 t6 t7 r0 r1 r2 r3 r4 r5 r6 r7 c0 c1' c2'
          go_upto_region 11 with fail
          refine wp_region_held_drew (S := fun w' => w'.cell? ⟨wr.heap.size, 0, none⟩ = some (.string nm) ∧ w'.cell? ⟨wr.heap.size, 1, none⟩ = some (.slice avb (f.firm.length + f.loose.length) cvb)) (by kernel_rfl) ⟨f0, f1⟩ (fun hHeld => ?_)
          refine wpAnyH_take (i := 0) (v := ?_) rfl (by kernel_rfl) (by kernel_rfl) (by kernel_rfl) (fun _ _ _ h => h) (Or.inl ⟨by rfl, ?_⟩) (by assumption) ?_
          rotate_left
          · (intro wz hSz; (try dsimp only at hSz); obtain ⟨s0, s1⟩ := hSz; go_simp) <;> with_reducible rfl
          simp only [Act.put, List.getElem_toArray, List.getElem_cons_zero, List.getElem_cons_succ, List.setIfInBounds_toArray, List.set_cons_zero, List.set_cons_succ]
          refine wpAnyH_take (i := 2) (v := ?_) rfl (by kernel_rfl) (by kernel_rfl) (by kernel_rfl) (fun _ _ _ h => h) (Or.inl ⟨by rfl, ?_⟩) (by assumption) ?_
          rotate_left
          · (intro wz hSz; (try dsimp only at hSz); obtain ⟨s0, s1⟩ := hSz; go_simp) <;> with_reducible rfl
          simp only [Act.put, List.getElem_toArray, List.getElem_cons_zero, List.getElem_cons_succ, List.setIfInBounds_toArray, List.set_cons_zero, List.set_cons_succ]
          refine wpAnyH_take (i := 3) (v := ?_) rfl (by kernel_rfl) (by kernel_rfl) (by kernel_rfl) (fun _ _ _ h => h) (Or.inl ⟨by rfl, ?_⟩) (by assumption) ?_
          rotate_left
          · (intro wz hSz; (try dsimp only at hSz); obtain ⟨s0, s1⟩ := hSz; go_simp) <;> with_reducible rfl
          simp only [Act.put, List.getElem_toArray, List.getElem_cons_zero, List.getElem_cons_succ, List.setIfInBounds_toArray, List.set_cons_zero, List.set_cons_succ]
          refine wpAnyH_take (i := 4) (v := ?_) rfl (by kernel_rfl) (by kernel_rfl) (by kernel_rfl) (fun _ _ _ h => h) (Or.inl ⟨by rfl, ?_⟩) (by assumption) ?_
          rotate_left
          · (intro wz hSz; (try dsimp only at hSz); obtain ⟨s0, s1⟩ := hSz; go_simp) <;> with_reducible rfl
          simp only [Act.put, List.getElem_toArray, List.getElem_cons_zero, List.getElem_cons_succ, List.setIfInBounds_toArray, List.set_cons_zero, List.set_cons_succ]
          refine wpAnyH_take (i := 5) (v := ?_) rfl (by kernel_rfl) (by kernel_rfl) (by kernel_rfl) (fun _ _ _ h => h) (Or.inl ⟨by rfl, ?_⟩) (by assumption) ?_
          rotate_left
          · (intro wz hSz; (try dsimp only at hSz); obtain ⟨s0, s1⟩ := hSz; go_simp) <;> with_reducible rfl
          simp only [Act.put, List.getElem_toArray, List.getElem_cons_zero, List.getElem_cons_succ, List.setIfInBounds_toArray, List.set_cons_zero, List.set_cons_succ]
          refine wpAnyH_take (i := 6) (v := ?_) rfl (by kernel_rfl) (by kernel_rfl) (by kernel_rfl) (fun _ _ _ h => h) (Or.inl ⟨by rfl, ?_⟩) (by assumption) ?_
          rotate_left
          · (intro wz hSz; (try dsimp only at hSz); obtain ⟨s0, s1⟩ := hSz; go_simp) <;> with_reducible rfl
          simp only [Act.put, List.getElem_toArray, List.getElem_cons_zero, List.getElem_cons_succ, List.setIfInBounds_toArray, List.set_cons_zero, List.set_cons_succ]
          refine wpAnyH_take (i := 7) (v := ?_) rfl (by kernel_rfl) (by kernel_rfl) (by kernel_rfl) (fun _ _ _ h => h) (Or.inl ⟨by rfl, ?_⟩) (by assumption) ?_
          rotate_left
          · (intro wz hSz; (try dsimp only at hSz); obtain ⟨s0, s1⟩ := hSz; go_simp) <;> with_reducible rfl
          simp only [Act.put, List.getElem_toArray, List.getElem_cons_zero, List.getElem_cons_succ, List.setIfInBounds_toArray, List.set_cons_zero, List.set_cons_succ]
          refine wpAnyH_ready (rs := [1, 8]) (by kernel_rfl) (by simp) (AllReadyH.cons rfl (fun K hK => ?_) (AllReadyH.cons rfl (fun K hK => ?_) AllReadyH.nil))
          · go_simp
            refine hK.out _ _ ⟨f0, f1⟩ (fun hHeld => ?_)
            clear hK K
            (try simp only [Act.put, List.getElem_toArray, List.getElem_cons_zero, List.getElem_cons_succ, List.setIfInBounds_toArray, List.set_cons_zero, List.set_cons_succ])
            refine wpAnyH_ready (rs := [8]) (by kernel_rfl) (by simp) (AllReadyH.cons rfl (fun K hK => ?_) AllReadyH.nil)
            go_simp
            refine (hF _ hrd6).mono ?_
            rintro e w7 ⟨a8, rfl, hr8, hb7, ha8, ha8'⟩
            have g0 := (hb7.cell (p := ⟨wr.heap.size, 0, none⟩) hFl).trans f0
            have g1 := (hb7.cell (p := ⟨wr.heap.size, 1, none⟩) hFl).trans f1
            have p1 := (hb7.cell (p := ⟨w.heap.size + 1 + 1, 1, none⟩) hTl6).trans q1
            have hs7 : w6.heap.size ≤ w7.heap.size := hb7.size
            have hFl7 : wr.heap.size < w7.heap.size := by omega
            have hTl7 : w.heap.size + 1 + 1 < w7.heap.size := by omega
            refine hK.out _ _ ⟨g0, g1⟩ (fun hHeld => ?_)
            clear hK K
            (try simp only [Act.put, List.getElem_toArray, List.getElem_cons_zero, List.getElem_cons_succ, List.setIfInBounds_toArray, List.set_cons_zero, List.set_cons_succ])
            refine wpAnyH_ready (rs := [9]) (by kernel_rfl) (by simp) (AllReadyH.cons rfl (fun K hK => ?_) AllReadyH.nil)
            go_simp
            refine hK.out _ _ ⟨(World.cell?_alloc_some _ _ _ (by rw [g0]; rfl)).trans g0, (World.cell?_alloc_some _ _ _ (by rw [g1]; rfl)).trans g1⟩ (fun hHeld => ?_)
            clear hK K
            (try simp only [Act.put, List.getElem_toArray, List.getElem_cons_zero, List.getElem_cons_succ, List.setIfInBounds_toArray, List.set_cons_zero, List.set_cons_succ])
            have hAl := alloc_at w7 (.cells #[.string nm, .slice (some ⟨a8, 0, none⟩) N N, .int .i64 (N : Nat)] 107)
            have hb78 : Below w7.heap.size w7 (w7.alloc (.cells #[.string nm, .slice (some ⟨a8, 0, none⟩) N N, .int .i64 (N : Nat)] 107)) := (Below.refl _ _).alloc (Nat.le_refl _) _
            have hbr8 : Below wr.heap.size wr (w7.alloc (.cells #[.string nm, .slice (some ⟨a8, 0, none⟩) N N, .int .i64 (N : Nat)] 107)) := (hbX.drew.drew.trans (hb7.mono hbX.size)).trans (hb78.mono (Nat.le_trans hbX.size hs7))
            have hs8 : (w7.alloc (.cells #[.string nm, .slice (some ⟨a8, 0, none⟩) N N, .int .i64 (N : Nat)] 107)).heap.size = w7.heap.size + 1 := by simp
            obtain ⟨w8, hw8⟩ : ∃ w8, w7.alloc (.cells #[.string nm, .slice (some ⟨a8, 0, none⟩) N N, .int .i64 (N : Nat)] 107) = w8 := ⟨_, rfl⟩
            rw [hw8] at hAl hb78 hbr8 hs8 ⊢
            clear hw8
            have hown8 := (Upd.ofBelow (fp := noFp) hbr8).row hownx (fun _ _ h => h)
            refine wpAnyH_ready (rs := [10]) (by kernel_rfl) (by simp) (AllReadyH.cons rfl (fun K hK => ?_) AllReadyH.nil)
            refine step_append_file rfl (.tmp 63) (.tmp 71) rfl (w.heap.size + 3) (.slice a1 k c1) xs ⟨nm, .slice (some ⟨a8, 0, none⟩) N N, f.kept x⟩ w7.heap.size 1 1 rfl rfl hown8 rfl (by rw [Hcell.out]; exact hAl) rfl (by have := hC.len; omega) (by omega) (k + 1) (by rw [hC.len]) _ rfl ?_
            intro g cap w9 hown hg hat
            have hU9 : Upd (fun j => (Value.slice a1 k c1).ownBlock = some j) w8 w9 := (Upd.refl _ w8).grown hg (fun j hj => Or.inl hj)
            have hlo : ∀ j, (Value.slice a1 k c1).ownBlock = some j → w.heap.size + 3 ≤ j := fun j hj => (hC.own.lt j hj).1
            have hlo2 : ∀ j, (Value.slice a1 k c1).ownBlock = some j → j < wr.heap.size := fun j hj => (hC.own.lt j hj).2
            have hX9 : w9.heap[wr.heap.size]? = some (.cells #[.string nm, .slice avb (f.firm.length + f.loose.length) cvb, .int .i64 (f.firm.length : Nat)] 107) := hU9.keep ((hb78.block _ (by omega)).trans ((hb7.block _ hFl).trans hX)) (fun e => by have := hlo2 _ e; omega)
            have hD9 := hU9.keep ((hbr8.block _ (blk_lt hDr)).trans hDr) (fun e => by have := hlo _ e; omega)
            have hR9 := hU9.keep ((hbr8.block _ (blk_lt hRr)).trans hRr) (fun e => by have := hlo _ e; omega)
            have hT9 := hU9.keep ((hbr8.block _ (blk_lt hTr)).trans hTr) (fun e => by have := hlo _ e; omega)
            obtain ⟨k0, k1, k2, _⟩ := cells3 hX9
            obtain ⟨y0, y1, y2, y3, y4, y5, y6, y7⟩ := cells4 hT9
            refine hK.out _ _ ⟨k0, k1⟩ (fun hHeld => ?_)
            clear hK K
            (try simp only [Act.put, List.getElem_toArray, List.getElem_cons_zero, List.getElem_cons_succ, List.setIfInBounds_toArray, List.set_cons_zero, List.set_cons_succ])
            refine wpAnyH_take (i := 11) (v := ?_) rfl (by kernel_rfl) (by kernel_rfl) (by kernel_rfl) (fun _ _ _ h => h) (Or.inl ⟨by rfl, ?_⟩) (by assumption) ?_
            rotate_left
            · (intro wz hSz; (try dsimp only at hSz); obtain ⟨s0, s1⟩ := hSz; go_simp) <;> with_reducible rfl
            simp only [Act.put, List.getElem_toArray, List.getElem_cons_zero, List.getElem_cons_succ, List.setIfInBounds_toArray, List.set_cons_zero, List.set_cons_succ]
            refine wpAnyH_ready (rs := [12]) (by kernel_rfl) (by simp) (AllReadyH.cons rfl (fun K hK => ?_) AllReadyH.nil)
            go_simp
            have hU10 : Upd (fun j => j = w.heap.size + 1 + 1) w9 (w9.setCell ⟨w.heap.size + 1 + 1, 1, none⟩ (.slice (some ⟨g, 0, none⟩) (k + 1) cap)) := setCell_upd 1 _
            have hX10 := hU10.keep hX9 (by omega)
            have hD10 := hU10.keep hD9 (by omega)
            have hR10 := hU10.keep hR9 (by omega)
            have hT10 := setCell_at hT9 1 (.slice (some ⟨g, 0, none⟩) (k + 1) cap)
            obtain ⟨m0, m1, m2, _⟩ := cells3 hX10
            refine hK.out _ _ ⟨m0, m1⟩ (fun hHeld => ?_)
            clear hK K
            refine wpAnyH_done (by kernel_rfl) ?_ _
            have hs9 := hU9.size
            have hCn := hC.next hbr8 hU9 hU10 (by omega) (by omega) hown (by rcases hat with e | e; exact Or.inl e; exact Or.inr e) rfl (by omega) (by omega) ⟨((show Rd w7 (.slice (some ⟨a8, 0, none⟩) N N) (bcells ((f.kept x).firm ++ (f.kept x).loose)) by rw [Hkb.out]; exact hr8).below hb78), fun _ g hg => by cases hg; exact (hNX.below hb6.drew.drew) _ ha8⟩
            have hb10 : Below w.heap.size w (w9.setCell ⟨w.heap.size + 1 + 1, 1, none⟩ (.slice (some ⟨g, 0, none⟩) (k + 1) cap)) := (hbr.trans ((hbr8.mono hbr.size).trans ((hU9.below (N := w.heap.size) (fun j hj => by have := hlo _ hj; omega) (by omega)).trans (hU10.below (fun j hj => by omega) (by omega)))))
            clear y0 y1 y2 y3 y4 y5 y6 y7 k0 k1 k2 m0 m1 m2
            go_wp2
            go_roundw
            case rel => exact ⟨k + 1, some ⟨g, 0, none⟩, cap, xs ++ [⟨nm, .slice (some ⟨a8, 0, none⟩) N N, f.kept x⟩], by omega, by go_num, hCn, by rw [Hsucc.out, List.map_append, Hxs.out]; rfl, hD10, hR10, hT10, hb10⟩
            case measure => simp [intOf]; omega
          · go_simp
            refine (hF _ hrd6).mono ?_
            rintro e w7 ⟨a8, rfl, hr8, hb7, ha8, ha8'⟩
            have g0 := (hb7.cell (p := ⟨wr.heap.size, 0, none⟩) hFl).trans f0
            have g1 := (hb7.cell (p := ⟨wr.heap.size, 1, none⟩) hFl).trans f1
            have p1 := (hb7.cell (p := ⟨w.heap.size + 1 + 1, 1, none⟩) hTl6).trans q1
            have hs7 : w6.heap.size ≤ w7.heap.size := hb7.size
            have hFl7 : wr.heap.size < w7.heap.size := by omega
            have hTl7 : w.heap.size + 1 + 1 < w7.heap.size := by omega
            refine hK.out _ _ ⟨g0, g1⟩ (fun hHeld => ?_)
            clear hK K
            (try simp only [Act.put, List.getElem_toArray, List.getElem_cons_zero, List.getElem_cons_succ, List.setIfInBounds_toArray, List.set_cons_zero, List.set_cons_succ])
            refine wpAnyH_ready (rs := [1, 9]) (by kernel_rfl) (by simp) (AllReadyH.cons rfl (fun K hK => ?_) (AllReadyH.cons rfl (fun K hK => ?_) AllReadyH.nil))
            · go_simp
              refine hK.out _ _ ⟨g0, g1⟩ (fun hHeld => ?_)
              clear hK K
              (try simp only [Act.put, List.getElem_toArray, List.getElem_cons_zero, List.getElem_cons_succ, List.setIfInBounds_toArray, List.set_cons_zero, List.set_cons_succ])
              refine wpAnyH_ready (rs := [9]) (by kernel_rfl) (by simp) (AllReadyH.cons rfl (fun K hK => ?_) AllReadyH.nil)
              go_simp
              refine hK.out _ _ ⟨(World.cell?_alloc_some _ _ _ (by rw [g0]; rfl)).trans g0, (World.cell?_alloc_some _ _ _ (by rw [g1]; rfl)).trans g1⟩ (fun hHeld => ?_)
              clear hK K
              (try simp only [Act.put, List.getElem_toArray, List.getElem_cons_zero, List.getElem_cons_succ, List.setIfInBounds_toArray, List.set_cons_zero, List.set_cons_succ])
              have hAl := alloc_at w7 (.cells #[.string nm, .slice (some ⟨a8, 0, none⟩) N N, .int .i64 (N : Nat)] 107)
              have hb78 : Below w7.heap.size w7 (w7.alloc (.cells #[.string nm, .slice (some ⟨a8, 0, none⟩) N N, .int .i64 (N : Nat)] 107)) := (Below.refl _ _).alloc (Nat.le_refl _) _
              have hbr8 : Below wr.heap.size wr (w7.alloc (.cells #[.string nm, .slice (some ⟨a8, 0, none⟩) N N, .int .i64 (N : Nat)] 107)) := (hbX.drew.drew.trans (hb7.mono hbX.size)).trans (hb78.mono (Nat.le_trans hbX.size hs7))
              have hs8 : (w7.alloc (.cells #[.string nm, .slice (some ⟨a8, 0, none⟩) N N, .int .i64 (N : Nat)] 107)).heap.size = w7.heap.size + 1 := by simp
              obtain ⟨w8, hw8⟩ : ∃ w8, w7.alloc (.cells #[.string nm, .slice (some ⟨a8, 0, none⟩) N N, .int .i64 (N : Nat)] 107) = w8 := ⟨_, rfl⟩
              rw [hw8] at hAl hb78 hbr8 hs8 ⊢
              clear hw8
              have hown8 := (Upd.ofBelow (fp := noFp) hbr8).row hownx (fun _ _ h => h)
              refine wpAnyH_ready (rs := [10]) (by kernel_rfl) (by simp) (AllReadyH.cons rfl (fun K hK => ?_) AllReadyH.nil)
              refine step_append_file rfl (.tmp 63) (.tmp 71) rfl (w.heap.size + 3) (.slice a1 k c1) xs ⟨nm, .slice (some ⟨a8, 0, none⟩) N N, f.kept x⟩ w7.heap.size 1 1 rfl rfl hown8 rfl (by rw [Hcell.out]; exact hAl) rfl (by have := hC.len; omega) (by omega) (k + 1) (by rw [hC.len]) _ rfl ?_
              intro g cap w9 hown hg hat
              have hU9 : Upd (fun j => (Value.slice a1 k c1).ownBlock = some j) w8 w9 := (Upd.refl _ w8).grown hg (fun j hj => Or.inl hj)
              have hlo : ∀ j, (Value.slice a1 k c1).ownBlock = some j → w.heap.size + 3 ≤ j := fun j hj => (hC.own.lt j hj).1
              have hlo2 : ∀ j, (Value.slice a1 k c1).ownBlock = some j → j < wr.heap.size := fun j hj => (hC.own.lt j hj).2
              have hX9 : w9.heap[wr.heap.size]? = some (.cells #[.string nm, .slice avb (f.firm.length + f.loose.length) cvb, .int .i64 (f.firm.length : Nat)] 107) := hU9.keep ((hb78.block _ (by omega)).trans ((hb7.block _ hFl).trans hX)) (fun e => by have := hlo2 _ e; omega)
              have hD9 := hU9.keep ((hbr8.block _ (blk_lt hDr)).trans hDr) (fun e => by have := hlo _ e; omega)
              have hR9 := hU9.keep ((hbr8.block _ (blk_lt hRr)).trans hRr) (fun e => by have := hlo _ e; omega)
              have hT9 := hU9.keep ((hbr8.block _ (blk_lt hTr)).trans hTr) (fun e => by have := hlo _ e; omega)
              obtain ⟨k0, k1, k2, _⟩ := cells3 hX9
              obtain ⟨y0, y1, y2, y3, y4, y5, y6, y7⟩ := cells4 hT9
              refine hK.out _ _ ⟨k0, k1⟩ (fun hHeld => ?_)
              clear hK K
              (try simp only [Act.put, List.getElem_toArray, List.getElem_cons_zero, List.getElem_cons_succ, List.setIfInBounds_toArray, List.set_cons_zero, List.set_cons_succ])
              refine wpAnyH_take (i := 11) (v := ?_) rfl (by kernel_rfl) (by kernel_rfl) (by kernel_rfl) (fun _ _ _ h => h) (Or.inl ⟨by rfl, ?_⟩) (by assumption) ?_
              rotate_left
              · (intro wz hSz; (try dsimp only at hSz); obtain ⟨s0, s1⟩ := hSz; go_simp) <;> with_reducible rfl
              simp only [Act.put, List.getElem_toArray, List.getElem_cons_zero, List.getElem_cons_succ, List.setIfInBounds_toArray, List.set_cons_zero, List.set_cons_succ]
              refine wpAnyH_ready (rs := [12]) (by kernel_rfl) (by simp) (AllReadyH.cons rfl (fun K hK => ?_) AllReadyH.nil)
              go_simp
              have hU10 : Upd (fun j => j = w.heap.size + 1 + 1) w9 (w9.setCell ⟨w.heap.size + 1 + 1, 1, none⟩ (.slice (some ⟨g, 0, none⟩) (k + 1) cap)) := setCell_upd 1 _
              have hX10 := hU10.keep hX9 (by omega)
              have hD10 := hU10.keep hD9 (by omega)
              have hR10 := hU10.keep hR9 (by omega)
              have hT10 := setCell_at hT9 1 (.slice (some ⟨g, 0, none⟩) (k + 1) cap)
              obtain ⟨m0, m1, m2, _⟩ := cells3 hX10
              refine hK.out _ _ ⟨m0, m1⟩ (fun hHeld => ?_)
              clear hK K
              refine wpAnyH_done (by kernel_rfl) ?_ _
              have hs9 := hU9.size
              have hCn := hC.next hbr8 hU9 hU10 (by omega) (by omega) hown (by rcases hat with e | e; exact Or.inl e; exact Or.inr e) rfl (by omega) (by omega) ⟨((show Rd w7 (.slice (some ⟨a8, 0, none⟩) N N) (bcells ((f.kept x).firm ++ (f.kept x).loose)) by rw [Hkb.out]; exact hr8).below hb78), fun _ g hg => by cases hg; exact (hNX.below hb6.drew.drew) _ ha8⟩
              have hb10 : Below w.heap.size w (w9.setCell ⟨w.heap.size + 1 + 1, 1, none⟩ (.slice (some ⟨g, 0, none⟩) (k + 1) cap)) := (hbr.trans ((hbr8.mono hbr.size).trans ((hU9.below (N := w.heap.size) (fun j hj => by have := hlo _ hj; omega) (by omega)).trans (hU10.below (fun j hj => by omega) (by omega)))))
              clear y0 y1 y2 y3 y4 y5 y6 y7 k0 k1 k2 m0 m1 m2
              go_wp2
              go_roundw
              case rel => exact ⟨k + 1, some ⟨g, 0, none⟩, cap, xs ++ [⟨nm, .slice (some ⟨a8, 0, none⟩) N N, f.kept x⟩], by omega, by go_num, hCn, by rw [Hsucc.out, List.map_append, Hxs.out]; rfl, hD10, hR10, hT10, hb10⟩
              case measure => simp [intOf]; omega
            · go_simp
              refine hK.out _ _ ⟨(World.cell?_alloc_some _ _ _ (by rw [g0]; rfl)).trans g0, (World.cell?_alloc_some _ _ _ (by rw [g1]; rfl)).trans g1⟩ (fun hHeld => ?_)
              clear hK K
              (try simp only [Act.put, List.getElem_toArray, List.getElem_cons_zero, List.getElem_cons_succ, List.setIfInBounds_toArray, List.set_cons_zero, List.set_cons_succ])
              refine wpAnyH_ready (rs := [1]) (by kernel_rfl) (by simp) (AllReadyH.cons rfl (fun K hK => ?_) AllReadyH.nil)
              go_simp
              refine hK.out _ _ ⟨(World.cell?_alloc_some _ _ _ (by rw [g0]; rfl)).trans g0, (World.cell?_alloc_some _ _ _ (by rw [g1]; rfl)).trans g1⟩ (fun hHeld => ?_)
              clear hK K
              (try simp only [Act.put, List.getElem_toArray, List.getElem_cons_zero, List.getElem_cons_succ, List.setIfInBounds_toArray, List.set_cons_zero, List.set_cons_succ])
              have hAl := alloc_at w7 (.cells #[.string nm, .slice (some ⟨a8, 0, none⟩) N N, .int .i64 (N : Nat)] 107)
              have hb78 : Below w7.heap.size w7 (w7.alloc (.cells #[.string nm, .slice (some ⟨a8, 0, none⟩) N N, .int .i64 (N : Nat)] 107)) := (Below.refl _ _).alloc (Nat.le_refl _) _
              have hbr8 : Below wr.heap.size wr (w7.alloc (.cells #[.string nm, .slice (some ⟨a8, 0, none⟩) N N, .int .i64 (N : Nat)] 107)) := (hbX.drew.drew.trans (hb7.mono hbX.size)).trans (hb78.mono (Nat.le_trans hbX.size hs7))
              have hs8 : (w7.alloc (.cells #[.string nm, .slice (some ⟨a8, 0, none⟩) N N, .int .i64 (N : Nat)] 107)).heap.size = w7.heap.size + 1 := by simp
              obtain ⟨w8, hw8⟩ : ∃ w8, w7.alloc (.cells #[.string nm, .slice (some ⟨a8, 0, none⟩) N N, .int .i64 (N : Nat)] 107) = w8 := ⟨_, rfl⟩
              rw [hw8] at hAl hb78 hbr8 hs8 ⊢
              clear hw8
              have hown8 := (Upd.ofBelow (fp := noFp) hbr8).row hownx (fun _ _ h => h)
              refine wpAnyH_ready (rs := [10]) (by kernel_rfl) (by simp) (AllReadyH.cons rfl (fun K hK => ?_) AllReadyH.nil)
              refine step_append_file rfl (.tmp 63) (.tmp 71) rfl (w.heap.size + 3) (.slice a1 k c1) xs ⟨nm, .slice (some ⟨a8, 0, none⟩) N N, f.kept x⟩ w7.heap.size 1 1 rfl rfl hown8 rfl (by rw [Hcell.out]; exact hAl) rfl (by have := hC.len; omega) (by omega) (k + 1) (by rw [hC.len]) _ rfl ?_
              intro g cap w9 hown hg hat
              have hU9 : Upd (fun j => (Value.slice a1 k c1).ownBlock = some j) w8 w9 := (Upd.refl _ w8).grown hg (fun j hj => Or.inl hj)
              have hlo : ∀ j, (Value.slice a1 k c1).ownBlock = some j → w.heap.size + 3 ≤ j := fun j hj => (hC.own.lt j hj).1
              have hlo2 : ∀ j, (Value.slice a1 k c1).ownBlock = some j → j < wr.heap.size := fun j hj => (hC.own.lt j hj).2
              have hX9 : w9.heap[wr.heap.size]? = some (.cells #[.string nm, .slice avb (f.firm.length + f.loose.length) cvb, .int .i64 (f.firm.length : Nat)] 107) := hU9.keep ((hb78.block _ (by omega)).trans ((hb7.block _ hFl).trans hX)) (fun e => by have := hlo2 _ e; omega)
              have hD9 := hU9.keep ((hbr8.block _ (blk_lt hDr)).trans hDr) (fun e => by have := hlo _ e; omega)
              have hR9 := hU9.keep ((hbr8.block _ (blk_lt hRr)).trans hRr) (fun e => by have := hlo _ e; omega)
              have hT9 := hU9.keep ((hbr8.block _ (blk_lt hTr)).trans hTr) (fun e => by have := hlo _ e; omega)
              obtain ⟨k0, k1, k2, _⟩ := cells3 hX9
              obtain ⟨y0, y1, y2, y3, y4, y5, y6, y7⟩ := cells4 hT9
              refine hK.out _ _ ⟨k0, k1⟩ (fun hHeld => ?_)
              clear hK K
              (try simp only [Act.put, List.getElem_toArray, List.getElem_cons_zero, List.getElem_cons_succ, List.setIfInBounds_toArray, List.set_cons_zero, List.set_cons_succ])
              refine wpAnyH_take (i := 11) (v := ?_) rfl (by kernel_rfl) (by kernel_rfl) (by kernel_rfl) (fun _ _ _ h => h) (Or.inl ⟨by rfl, ?_⟩) (by assumption) ?_
              rotate_left
              · (intro wz hSz; (try dsimp only at hSz); obtain ⟨s0, s1⟩ := hSz; go_simp) <;> with_reducible rfl
              simp only [Act.put, List.getElem_toArray, List.getElem_cons_zero, List.getElem_cons_succ, List.setIfInBounds_toArray, List.set_cons_zero, List.set_cons_succ]
              refine wpAnyH_ready (rs := [12]) (by kernel_rfl) (by simp) (AllReadyH.cons rfl (fun K hK => ?_) AllReadyH.nil)
              go_simp
              have hU10 : Upd (fun j => j = w.heap.size + 1 + 1) w9 (w9.setCell ⟨w.heap.size + 1 + 1, 1, none⟩ (.slice (some ⟨g, 0, none⟩) (k + 1) cap)) := setCell_upd 1 _
              have hX10 := hU10.keep hX9 (by omega)
              have hD10 := hU10.keep hD9 (by omega)
              have hR10 := hU10.keep hR9 (by omega)
              have hT10 := setCell_at hT9 1 (.slice (some ⟨g, 0, none⟩) (k + 1) cap)
              obtain ⟨m0, m1, m2, _⟩ := cells3 hX10
              refine hK.out _ _ ⟨m0, m1⟩ (fun hHeld => ?_)
              clear hK K
              refine wpAnyH_done (by kernel_rfl) ?_ _
              have hs9 := hU9.size
              have hCn := hC.next hbr8 hU9 hU10 (by omega) (by omega) hown (by rcases hat with e | e; exact Or.inl e; exact Or.inr e) rfl (by omega) (by omega) ⟨((show Rd w7 (.slice (some ⟨a8, 0, none⟩) N N) (bcells ((f.kept x).firm ++ (f.kept x).loose)) by rw [Hkb.out]; exact hr8).below hb78), fun _ g hg => by cases hg; exact (hNX.below hb6.drew.drew) _ ha8⟩
              have hb10 : Below w.heap.size w (w9.setCell ⟨w.heap.size + 1 + 1, 1, none⟩ (.slice (some ⟨g, 0, none⟩) (k + 1) cap)) := (hbr.trans ((hbr8.mono hbr.size).trans ((hU9.below (N := w.heap.size) (fun j hj => by have := hlo _ hj; omega) (by omega)).trans (hU10.below (fun j hj => by omega) (by omega)))))
              clear y0 y1 y2 y3 y4 y5 y6 y7 k0 k1 k2 m0 m1 m2
              go_wp2
              go_roundw
              case rel => exact ⟨k + 1, some ⟨g, 0, none⟩, cap, xs ++ [⟨nm, .slice (some ⟨a8, 0, none⟩) N N, f.kept x⟩], by omega, by go_num, hCn, by rw [Hsucc.out, List.map_append, Hxs.out]; rfl, hD10, hR10, hT10, hb10⟩
              case measure => simp [intOf]; omega
    · obtain rfl : k = es.length := by omega
      have hxs := Hxs.out
      have hfl : fs.length = es.length := by rw [← Hes.out, List.length_map]
      rw [← hfl] at hxs
      have hRf : RefAt X wr a1 es.length c1 ⟨most, -1, false, crashE fs keeps fs.length⟩ := RefAt.of_row hC.own hC.len (by simp only [maxLen]; omega) (fun y hy => (hC.ok y hy).1) hxs.symm (fun g hg => hX g (by have := (hC.own.lt g hg).1; omega))
      have HRf := Lib.hid hRf
      clear hxs hfl hRf hC hat
      go_wp2
      obtain ⟨p1, p2⟩ := ref_answer HRf.out hRr hbr (by omega) (.int .i64 most) (.slice a1 es.length c1) (.int .i64 (-1)) (.bool false)
      exact bodyPost_ret (v := .agg #[.int .i64 most, .slice a1 es.length c1, .int .i64 (-1), .bool false]) (by simp [results, Try.results31, go_sem, r0, r1, r2, r3]) rfl ⟨_, _, _, rfl, p1, p2⟩
end Go.Proofs.Ytlljlkeknklplaa
