/-
  An index is read.
-/
import Derived.Test.YtbepcjajbcecnaaGreatDoorMPag13
import Derived.Test.YtbepcjajbcecnaaGreatDoorMTri0
namespace Go.Proofs.YtbepcjajbcecnaaGreatDoor
open Go.RowKit Go.Maps Go.MapKept
set_option linter.unusedSimpArgs false

set_option maxRecDepth 100000 in
set_option maxHeartbeats 2000000 in
theorem bsEqual_any (w : World) (va vb : Value) (x y : List UInt8) (ha : Rd w va (bcells x)) (hb : Rd w vb (bcells y)) :
    Calls Tryz.prog 157 #[va, vb] w fun e w' => e = .returned (.bool (decide (x = y))) ∧ w = w' := by
  have h1 := run_bytes_str (P := Tryz.prog) ha Tryz.underlying25 Tryz.underlying5 Tryz.underlying9
  have h2 := run_bytes_str (P := Tryz.prog) hb Tryz.underlying25 Tryz.underlying5 Tryz.underlying9
  have hfin : ((⟨x.toArray⟩ : ByteArray).toList == (⟨y.toArray⟩ : ByteArray).toList) = decide (x = y) := by
    rw [ByteArray.toList_eq, ByteArray.toList_eq]
    by_cases h : x = y <;> simp [h]
  obtain ⟨S1, hS1⟩ : ∃ S1 : ByteArray, (⟨x.toArray⟩ : ByteArray) = S1 := ⟨_, rfl⟩
  obtain ⟨S2, hS2⟩ : ∃ S2 : ByteArray, (⟨y.toArray⟩ : ByteArray) = S2 := ⟨_, rfl⟩
  rw [hS1] at h1 hfin
  rw [hS2] at h2 hfin
  have Hfin := Lib.hid hfin
  clear hS1 hS2 hfin
  obtain ⟨a1, c1, rfl⟩ := ha.shape
  obtain ⟨a2, c2, rfl⟩ := hb.shape
  go_enter Tryz.func157, Tryz.ntmps157
  go_wp2
  go_ret
  exact ⟨by rw [← Hfin.out]; rfl, rfl⟩
set_option maxRecDepth 100000 in
set_option maxHeartbeats 2000000 in
theorem bsHasPrefix_magic (w : World) (va vb : Value) (x : List UInt8) (ha : Rd w va (bcells x)) (hcap : CapOk va) (hb : Rd w vb (bcells magicI)) :
    Calls Tryz.prog 135 #[va, vb] w fun e w' => e = .returned (.bool (decide (x.take 4 = magicI))) ∧ w = w' := by
  obtain ⟨a1, c1, rfl⟩ := ha.shape
  obtain ⟨a2, c2, rfl⟩ := hb.shape
  obtain ⟨_, _, _, he, hnc, hcm⟩ := hcap
  cases he
  rw [bcells_length] at ha hnc ⊢
  rw [show (bcells magicI).length = 4 from rfl] at hb ⊢
  by_cases h4 : 4 ≤ x.length
  · have h4I : (4 : Int) ≤ (x.length : Int) := by omega
    have h4c : (4 : Int) ≤ (c1 : Int) := by omega
    have hE := bsEqual_any w (.slice a1 4 c1) (.slice a2 4 c2) (x.take 4) magicI (by
      have := rd_prefix ha 4 (by omega)
      unfold bcells at this ⊢
      rw [← List.map_take] at this
      exact this) hb
    have HE := Lib.hid hE
    clear hE ha hb
    go_enter Tryz.func135, Tryz.ntmps135
    go_wp2_with (go_at_call 157; refine HE.out.mono ?_; rintro e w1 ⟨rfl, rfl⟩)
    go_ret
    exact ⟨rfl, rfl⟩
  · have h4I : ¬ (4 : Int) ≤ (x.length : Int) := by omega
    have hfin : decide (x.take 4 = magicI) = false := by
      simp only [decide_eq_false_iff_not]
      intro e
      have := congrArg List.length e
      simp [magicI] at this
      omega
    rw [hfin]
    clear hfin ha hb h4
    go_enter Tryz.func135, Tryz.ntmps135
    go_wp2
    go_ret
    exact ⟨rfl, rfl⟩
theorem results_tmp4 {fn : Func} {t u v x : Tmp} (h : fn.results = #[.tmp t, .tmp u, .tmp v, .tmp x]) (tmps : Array Value) (P : Program) (w : World) :
    (results fn tmps).run P w = .ok (.tuple #[tmps.getD t undef, tmps.getD u undef, tmps.getD v undef, tmps.getD x undef]) w := by
  simp [results, h]
theorem cells3_more {w : World} {b : Nat} {x0 x1 x2 : Value} {T : TypeId} (h : w.heap[b]? = some (.cells #[x0, x1, x2] T (0, 0))) :
    (w.cell? ⟨b, 0, none⟩ = some x0 ∧ w.cell? ⟨b, 1, none⟩ = some x1 ∧ w.cell? ⟨b, 2, none⟩ = some x2) ∧ (∀ o, (w.alloc o).cell? ⟨b, 0, none⟩ = some x0 ∧ (w.alloc o).cell? ⟨b, 1, none⟩ = some x1 ∧ (w.alloc o).cell? ⟨b, 2, none⟩ = some x2) ∧
      (∀ o o', ((w.alloc o).alloc o').cell? ⟨b, 0, none⟩ = some x0 ∧ ((w.alloc o).alloc o').cell? ⟨b, 1, none⟩ = some x1 ∧ ((w.alloc o).alloc o').cell? ⟨b, 2, none⟩ = some x2) ∧
      (∀ o o' o'', (((w.alloc o).alloc o').alloc o'').cell? ⟨b, 0, none⟩ = some x0 ∧ (((w.alloc o).alloc o').alloc o'').cell? ⟨b, 1, none⟩ = some x1 ∧ (((w.alloc o).alloc o').alloc o'').cell? ⟨b, 2, none⟩ = some x2) := by
  have k : ∀ {w' : World}, w'.heap[b]? = some (.cells #[x0, x1, x2] T (0, 0)) → w'.cell? ⟨b, 0, none⟩ = some x0 ∧ w'.cell? ⟨b, 1, none⟩ = some x1 ∧ w'.cell? ⟨b, 2, none⟩ = some x2 := fun h => ⟨(cells3 h).1, (cells3 h).2.1, (cells3 h).2.2.1⟩
  exact ⟨k h, fun o => k (alloc_old h o), fun o o' => k (alloc_old (alloc_old h o) o'), fun o o' o'' => k (alloc_old (alloc_old (alloc_old h o) o') o'')⟩
theorem Tri.snoc {w0 w : World} {es : List AEnt} {en : AEnt} {a1 a2 a3 : Option Addr} {c1 c2 c3 : Nat} {T : List (Nat × Obj)} (h : Tri w0 w (.slice a1 (es.length + 1) c1) (.slice a2 (es.length + 1) c2) (.slice a3 (es.length + 1) c3) (es.length + 1) (es.length + 1) (es.length + 1) (es.map (fun x => Value.string x.name) ++ [.string en.name]) (es.flatMap (fun x => [Value.slice none 0 0, .int .i64 x.pack, .int .i64 x.pos]) ++ [.slice none 0 0, .int .i64 en.pack, .int .i64 en.pos]) (es.map (fun x => Value.int .i64 x.long) ++ [.int .i64 en.long]) T) :
    Tri w0 w (.slice a1 (es ++ [en]).length c1) (.slice a2 (es ++ [en]).length c2) (.slice a3 (es ++ [en]).length c3) (es ++ [en]).length (es ++ [en]).length (es ++ [en]).length ((es ++ [en]).map fun x => .string x.name) ((es ++ [en]).flatMap fun x => [.slice none 0 0, .int .i64 x.pack, .int .i64 x.pos]) ((es ++ [en]).map fun x => .int .i64 x.long) [] := by
  have := h.clear
  rw [List.length_append, List.map_append, List.flatMap_append, List.map_append]
  exact this
theorem bytesLess_ltS5 (x y : ByteArray) : Op.bytesLess x.toList y.toList = ltS x y := by
  rw [Go.Proofs.bytesLess_eq, ByteArray.toList_eq, ByteArray.toList_eq]
  rfl
def IdxPost (o : Option (List AEnt)) (w : World) (e : Ending) (w' : World) : Prop :=
  Below w.heap.size w w' ∧ match o with
  | some es => ∃ a1 c1 a2 c2 a3 c3, e = .returned (.tuple #[.slice a1 es.length c1, .slice a2 es.length c2, .slice a3 es.length c3, .bool true]) ∧ ∃ w0, w.heap.size ≤ w0.heap.size ∧ Tri w0 w' (.slice a1 es.length c1) (.slice a2 es.length c2) (.slice a3 es.length c3) es.length es.length es.length (es.map fun x => .string x.name) (es.flatMap fun x => [.slice none 0 0, .int .i64 x.pack, .int .i64 x.pos]) (es.map fun x => .int .i64 x.long) []
  | none => ∃ v1 v2 v3, e = .returned (.tuple #[v1, v2, v3, .bool false])
theorem IdxPost.bad {w w' : World} {o : Option (List AEnt)} (h : o = none) (hB : Below w.heap.size w w') (v1 v2 v3 : Value) : IdxPost o w (.returned (.tuple #[v1, v2, v3, .bool false])) w' := by
  subst h; exact ⟨hB, v1, v2, v3, rfl⟩
theorem IdxPost.good {w w' w0 : World} {o : Option (List AEnt)} {es : List AEnt} (h : o = some es) (hB : Below w.heap.size w w') {a1 a2 a3 : Option Addr} {c1 c2 c3 : Nat} (hw : w.heap.size ≤ w0.heap.size) (hT : Tri w0 w' (.slice a1 es.length c1) (.slice a2 es.length c2) (.slice a3 es.length c3) es.length es.length es.length (es.map fun x => .string x.name) (es.flatMap fun x => [.slice none 0 0, .int .i64 x.pack, .int .i64 x.pos]) (es.map fun x => .int .i64 x.long) []) :
    IdxPost o w (.returned (.tuple #[.slice a1 es.length c1, .slice a2 es.length c2, .slice a3 es.length c3, .bool true])) w' := by
  subst h; exact ⟨hB, a1, c1, a2, c2, a3, c3, rfl, w0, hw, hT⟩
set_option maxRecDepth 100000 in
set_option maxHeartbeats 8000000 in
theorem pgindex_any (w : World) (v : Value) (b : List UInt8) (k : Nat) (hv : Rd w v (bcells b)) (hcap : CapOk v) (hl : b.length ≤ 1099511627776) (hk : k ≤ 9007199254740992) :
    Calls Tryz.prog 103 #[v, .int .i64 k] w (IdxPost (pIndex b k) w) := by
  obtain ⟨er, inn, hun⟩ : ∃ er inn, unsealL sumL b = (er, inn) := ⟨_, _, rfl⟩
  have hil : inn.length ≤ b.length := by
    unfold unsealL at hun
    split at hun
    · cases hun; simp
    · split at hun
      · cases hun; simp
      · cases hun; simp
  have hidx := pIndex_un (k := k) hun
  obtain ⟨o, ho⟩ : ∃ o, pIndex b k = o := ⟨_, rfl⟩
  rw [ho] at hidx ⊢
  have hU := bUnseal_any w v b hv hcap hl
  unfold UnPost at hU
  rw [hun] at hU
  simp only at hU
  obtain ⟨av, cv, rfl⟩ := hv.shape
  have HU := Lib.hid hU
  have Hidx := Lib.hid hidx
  clear hU hidx ho hun hcap hv
  by_cases h0 : er = 0
  · subst h0
    have hidx := Hidx.out
    rw [if_pos rfl] at hidx
    have Hx := Lib.hid hidx
    clear hidx Hidx
    go_enter Tryz.func103, Tryz.ntmps103
    go_upto_region 2 with (go_at_call 134; refine HU.out.mono ?_; rintro e w1 ⟨a1, c1, rfl, hR, hB1⟩; have HR := Lib.hid (And.intro hR hB1); clear hR hB1)
    have hBm : Below w1.heap.size w1 (w1.alloc (.cells #[.int .u8 72, .int .u8 83, .int .u8 73, .int .u8 49] 5 (4, 5))) := (Below.refl _ _).alloc (Nat.le_refl _) _
    obtain ⟨_, _, hv1, hnc1, hcm1, _⟩ := row_slice (ownsRow_base0 HR.out.1)
    cases hv1
    have hcap1 : CapOk (.slice a1 inn.length c1) := ⟨_, _, _, rfl, hnc1, hcm1⟩
    have hHP := bsHasPrefix_magic _ _ _ inn ((Rd.ofOwns HR.out.1).below hBm) hcap1 (Rd_new w1 #[.int .u8 72, .int .u8 83, .int .u8 73, .int .u8 49] 5 (4, 5) (bcells magicI) 4 4 rfl rfl)
    have hBm2 : Below w.heap.size w (w1.alloc (.cells #[.int .u8 72, .int .u8 83, .int .u8 73, .int .u8 49] 5 (4, 5))) := HR.out.2.trans (hBm.mono HR.out.2.size)
    have kc := Lib.run_convert_bytes_const (P := Tryz.prog) w1 25 5 #[.int .u8 72, .int .u8 83, .int .u8 73, .int .u8 49] 4 4 Tryz.underlying25 Tryz.underlying5
    have HHP := Lib.hid hHP
    have HBm := Lib.hid (And.intro hBm hBm2)
    have Hcap := Lib.hid hcap1
    clear hBm hBm2 hHP hnc1 hcm1 hcap1
    by_cases hm : inn.take 4 = magicI
    · rw [decide_eq_true hm] at HHP
      have h4 : 4 ≤ inn.length := by
        have := congrArg List.length hm
        simp [magicI] at this
        omega
      obtain ⟨w2, hw2⟩ : ∃ x, w1.alloc (.cells #[.int .u8 72, .int .u8 83, .int .u8 73, .int .u8 49] 5 (4, 5)) = x := ⟨_, rfl⟩
      have hrd2 : Rd w2 (.slice a1 inn.length c1) (bcells inn) := by rw [← hw2]; exact (Rd.ofOwns HR.out.1).below HBm.out.1
      have hB2 : Below w.heap.size w w2 := by rw [← hw2]; exact HBm.out.2
      rw [hw2] at HHP
      have hlow2 : bcells inn ≠ [] → ∀ g, (Value.slice a1 inn.length c1).ownBlock = some g → g < w2.heap.size := fun hne g hg => rd_blk5 hrd2 hne g hg
      have Hrd := Lib.hid (And.intro hrd2 hB2)
      have Hw2 := Lib.hid hw2
      have Hm := Lib.hid hm
      clear HBm hrd2 hB2 hw2 hlow2 hm
      obtain ⟨e1, x, j, hg1⟩ : ∃ er x y, gU (inn.drop 4) = (er, x, y) := ⟨_, _, _, rfl⟩
      have hG1 := bGetUint_any w2 _ inn 4 Hrd.out.1 Hcap.out h4 (by omega)
      unfold GuPost guVal guNext guErr at hG1
      rw [hg1, show (((4 : Nat) : Nat) : Int) = 4 from rfl] at hG1
      simp only at hG1
      have hx64 := gU_lt hg1
      have hkw : IntKind.u64.wrap (k : Int) = k := IntWalk.u64_in _ (by omega)
      obtain ⟨p4, hp4⟩ : ∃ p4 : Nat, (if e1 = 0 then (4 : Int) + (j : Int) else 0) = (p4 : Int) := ⟨if e1 = 0 then 4 + j else 0, by split <;> simp⟩
      rw [hp4] at hG1
      have HG1 := Lib.hid hG1
      clear hG1
      by_cases hb1 : e1 ≠ 0 ∨ x ≠ k
      · have Ho := Lib.hid (Hx.out.trans (pIdx_bad1 hg1 hb1))
        have hI1 : (e1 != 0) = true ∨ ((e1 != 0) = false ∧ ((x : Int) != (k : Int)) = true) := by
          by_cases h : e1 = 0
          · right
            refine ⟨by simp [h], ?_⟩
            rcases hb1 with hb1 | hb1
            · exact absurd h hb1
            · simpa using (fun e => hb1 (by omega) : ¬ (x : Int) = (k : Int))
          · left; simpa using h
        clear hb1 hg1 hp4
        rcases hI1 with hI1 | ⟨hI1, hI2⟩
        all_goals
          go_wp2_with first
            | (go_at_call 135; rw [Hw2.out]; refine HHP.out.mono ?_; rintro e w3 ⟨rfl, rfl⟩)
            | (go_at_call 136; refine HG1.out.mono ?_; rintro e w4 ⟨rfl, hB4⟩; have HB4 := Lib.hid hB4; clear hB4)
          (try simp only [Exit.inBlock, Exit.then])
          refine bodyPost_ret (results_tmp4 rfl _ _ _) rfl ?_
          exact IdxPost.bad Ho.out (Hrd.out.2.trans (HB4.out.mono Hrd.out.2.size)) _ _ _
      · obtain rfl : e1 = 0 := by
          by_cases h : e1 = 0
          · exact h
          · exact absurd (Or.inl h) hb1
        obtain rfl : x = k := by
          by_cases h : x = k
          · exact h
          · exact absurd (Or.inr h) hb1
        rw [if_pos rfl] at hp4
        obtain rfl : p4 = 4 + j := by omega
        clear hb1 hp4
        have hj4 := gU_at h4 hg1
        obtain ⟨e2, n, j2, hg2⟩ : ∃ er x y, gU (inn.drop (4 + j)) = (er, x, y) := ⟨_, _, _, rfl⟩
        have hG2 := fun w5 (h5 : Below w2.heap.size w2 w5) => bGetUint_any w5 _ inn (4 + j) (Hrd.out.1.below h5) Hcap.out hj4 (by omega)
        unfold GuPost guVal guNext guErr at hG2
        rw [hg2] at hG2
        simp only at hG2
        have hn64 := gU_lt hg2
        obtain ⟨p5, hp5⟩ : ∃ p5 : Nat, (if e2 = 0 then ((4 + j : Nat) : Int) + (j2 : Int) else 0) = (p5 : Int) := ⟨if e2 = 0 then 4 + j + j2 else 0, by split <;> simp⟩
        rw [hp5] at hG2
        have HG2 := Lib.hid hG2
        have hxx : ((x : Int) != (x : Int)) = false := by simp
        clear hG2
        by_cases hb2 : e2 ≠ 0 ∨ 4096 < n
        · have Ho := Lib.hid (Hx.out.trans (pIdx_bad2 hg1 hg2 hb2))
          have hI1 : (e2 != 0) = true ∨ ((e2 != 0) = false ∧ (4096 : Int) < (n : Int)) := by
            by_cases h : e2 = 0
            · right
              refine ⟨by simp [h], ?_⟩
              rcases hb2 with hb2 | hb2
              · exact absurd h hb2
              · omega
            · left; simpa using h
          clear hb2 hg2 hp5 hg1
          rcases hI1 with hI1 | ⟨hI1, hI2⟩
          all_goals
            go_wp2_with first
              | (go_at_call 135; rw [Hw2.out]; refine HHP.out.mono ?_; rintro e w3 ⟨rfl, rfl⟩)
              | (go_at_call 136; with_reducible refine HG1.out.mono ?_; rintro e w4 ⟨rfl, hB4⟩; have HB4 := Lib.hid hB4; clear hB4)
              | (go_at_call 136; refine (HG2.out w4 HB4.out).mono ?_; rintro e w5 ⟨rfl, hB5⟩; have HB5 := Lib.hid (HB4.out.trans (hB5.mono HB4.out.size)); clear hB5)
            (try simp only [Exit.inBlock, Exit.then])
            refine bodyPost_ret (results_tmp4 rfl _ _ _) rfl ?_
            exact IdxPost.bad Ho.out (Hrd.out.2.trans (HB5.out.mono Hrd.out.2.size)) _ _ _
        · obtain rfl : e2 = 0 := by
            by_cases h : e2 = 0
            · exact h
            · exact absurd (Or.inl h) hb2
          have hn4 : n ≤ 4096 := by
            by_cases h : n ≤ 4096
            · exact h
            · exact absurd (Or.inr (by omega)) hb2
          have hnI : ¬ (4096 : Int) < (n : Int) := by omega
          rw [if_pos rfl] at hp5
          obtain rfl : p5 = 4 + j + j2 := by omega
          have hj5 := gU_at hj4 hg2
          have hso : IdxSo inn x o n (4 + j + j2) [] := ⟨hj5, by rw [Hx.out, pIdx_go Hm.out hg1 hg2 hn4]; show _ = match (pEnts x n (inn.drop (4 + j + j2)) none).map (fun r => ([] ++ r.1, r.2)) with | some (es, []) => some es | _ => none; cases pEnts x n (inn.drop (4 + j + j2)) none with | none => rfl | some r => rfl⟩
          have Hso := Lib.hid hso
          clear hb2 hp5 hj5 hso hg1 hg2
          go_upto_region 13 with first
            | (go_at_call 135; rw [Hw2.out]; refine HHP.out.mono ?_; rintro e w3 ⟨rfl, rfl⟩)
            | (go_at_call 136; with_reducible refine HG1.out.mono ?_; rintro e w4 ⟨rfl, hB4⟩; have HB4 := Lib.hid hB4; clear hB4)
            | (go_at_call 136; refine (HG2.out w4 HB4.out).mono ?_; rintro e w5 ⟨rfl, hB5⟩; have HB5 := Lib.hid (HB4.out.trans (hB5.mono HB4.out.size)); clear hB5)
          have hr5 : Rd w5 (.slice a1 inn.length c1) (bcells inn) := Hrd.out.1.below HB5.out
          have hbw5 : Below w.heap.size w w5 := Hrd.out.2.trans (HB5.out.mono Hrd.out.2.size)
          have Hr5 := Lib.hid (And.intro hr5 hbw5)
          clear hr5 hbw5
          go_loopw [11, 12, 13, 14, 15, 16, 17, 18, 19, 20] (fun av nv kv lv mv _ _ _ _ _ wr => ∃ (n' at_ : Nat) (es : List AEnt) (k1 : Option Addr) (d1 : Nat) (k2 : Option Addr) (d2 : Nat) (k3 : Option Addr) (d3 : Nat), n' + es.length ≤ 4096 ∧ av = .int .i64 at_ ∧ nv = .int .u64 n' ∧ kv = .slice k1 es.length d1 ∧ lv = .slice k2 es.length d2 ∧ mv = .slice k3 es.length d3 ∧
            Tri w5 wr (.slice k1 es.length d1) (.slice k2 es.length d2) (.slice k3 es.length d3) es.length es.length es.length (es.map fun x => .string x.name) (es.flatMap fun x => [.slice none 0 0, .int .i64 x.pack, .int .i64 x.pos]) (es.map fun x => .int .i64 x.long) [] ∧ IdxSo inn x o n' at_ es) (fun _ nv _ _ _ _ _ _ _ _ _ => (intOf nv).toNat)
          case atStart => exact ⟨n, 4 + j + j2, [], none, 0, none, 0, none, 0, by simpa using hn4, rfl, rfl, rfl, rfl, rfl, Tri.start _, Hso.out⟩
          case round =>
            obtain ⟨n', at_, es, k1, d1, k2, d2, k3, d3, hne, rfl, rfl, rfl, rfl, rfl, hT, hso⟩ := hrel
            have HT := Lib.hid hT
            have HS := Lib.hid hso
            clear hT hso Hso
            by_cases hn0 : n' = 0
            · subst hn0
              have hdone := HS.out.done
              have hBf : Below w.heap.size w wr := Hr5.out.2.trans (HT.out.bel.mono Hr5.out.2.size)
              have hw5 : w.heap.size ≤ w5.heap.size := Hr5.out.2.size
              by_cases hat : at_ = inn.length
              · have hatb : ((at_ : Int) == (inn.length : Int)) = true := by simp [hat]
                have Ho := Lib.hid (hdone.trans (if_pos hat))
                have HBf := Lib.hid hBf
                clear hdone hat hBf
                go_wp2_with fail
                (try simp only [Exit.inBlock, Exit.then])
                refine bodyPost_ret (results_tmp4 rfl _ _ _) rfl ?_
                exact IdxPost.good Ho.out HBf.out hw5 HT.out
              · have hatb : ((at_ : Int) == (inn.length : Int)) = false := by simpa using (fun e => hat (by omega) : ¬ (at_ : Int) = (inn.length : Int))
                have Ho := Lib.hid (hdone.trans (if_neg hat))
                have HBf := Lib.hid hBf
                clear hdone hat hBf
                go_wp2_with fail
                (try simp only [Exit.inBlock, Exit.then])
                refine bodyPost_ret (results_tmp4 rfl _ _ _) rfl ?_
                exact IdxPost.bad Ho.out HBf.out _ _ _
            · obtain ⟨n1, rfl⟩ : ∃ n1, n' = n1 + 1 := ⟨n' - 1, by omega⟩
              have hnI : (0 : Int) < ((n1 + 1 : Nat) : Int) := by omega
              have hE := pgentry_any wr _ inn at_ x (Hr5.out.1.below HT.out.bel) Hcap.out HS.out.le (by omega) hk
              cases he : pEntA inn at_ x with
              | none =>
                rw [he] at hE
                obtain Ho := Lib.hid (HS.out.bad (Or.inl he))
                have HE := Lib.hid hE
                clear hE he hn0
                go_wp2_with first
                  | (go_at_call 137; refine HE.out.mono ?_; rintro e w7 ⟨hB7, s, p1, p2, p3, p4, rfl⟩; have HB7 := Lib.hid hB7; clear hB7)
                (try simp only [Exit.inBlock, Exit.then])
                refine bodyPost_ret (results_tmp4 rfl _ _ _) rfl ?_
                exact IdxPost.bad Ho.out (Hr5.out.2.trans (((HT.out.bel.trans (HB7.out.mono HT.out.bel.size)).alloc (Nat.le_trans HT.out.bel.size HB7.out.size) _).mono Hr5.out.2.size)) _ _ _
              | some z =>
                obtain ⟨en, a2⟩ := z
                rw [he] at hE
                have hle := pEntA_le HS.out.le he
                have HE := Lib.hid hE
                have He := Lib.hid he
                clear hE he hn0
                go_upto_region 16 with first
                  | (go_at_call 137; refine HE.out.mono ?_; rintro e w7 ⟨hB7, rfl⟩; have HB7 := Lib.hid hB7; clear hB7)
                have hBx : Below w5.heap.size w5 w7 := HT.out.bel.trans (HB7.out.mono HT.out.bel.size)
                have hT8 := (HT.out.below HB7.out).alloc (.cells #[.slice none 0 0, .int .i64 en.pack, .int .i64 en.pos] 104)
                obtain ⟨bx, hbx⟩ : ∃ y, w7.heap.size = y := ⟨_, rfl⟩
                obtain ⟨w8, hw8⟩ : ∃ y, w7.alloc (.cells #[.slice none 0 0, .int .i64 en.pack, .int .i64 en.pos] 104) = y := ⟨_, rfl⟩
                rw [hw8, hbx] at hT8
                rw [hw8, hbx]
                have hb8 : Below w.heap.size w w8 := Hr5.out.2.trans (hT8.bel.mono Hr5.out.2.size)
                have HT8 := Lib.hid hT8
                have Hb8 := Lib.hid hb8
                clear hT8 hb8 hBx hbx hw8
                go_cut [92] from 76 to 105 (fun bv wx => bv = .bool (!nextOk (lastN es) en.name) ∧ wx = w8)
                case first =>
                  by_cases hes : es = []
                  · subst hes
                    have HT9 := HT8.out
                    go_wp2_with fail
                    go_meet
                    case rel => first | exact ⟨rfl, rfl⟩ | ((repeat apply Exists.intro); exact ⟨⟨rfl, rfl⟩, rfl⟩)
                  · have hl0 : 0 < es.length := List.length_pos_iff.2 hes
                    have hl0I : (0 : Int) < (es.length : Int) := by omega
                    obtain ⟨gb, c', hv, _, hgl, hcells⟩ := row_cell HT8.out.r1 (es.length - 1) (by omega)
                    cases hv
                    obtain ⟨lst, hlst⟩ : ∃ l, es[es.length - 1]? = some l := ⟨_, List.getElem?_eq_getElem (by omega)⟩
                    have hcl : w8.cell? ⟨gb, es.length - 1, none⟩ = some (.string lst.name) := (hcells (es.length - 1) (by omega)).trans (by rw [List.getElem?_map, hlst]; rfl)
                    have hlN : lastN es = some lst.name := by unfold lastN; rw [List.getLast?_eq_getElem?, hlst]; rfl
                    have HlN := Lib.hid hlN
                    clear hlN hcells hlst hes
                    go_wp2_with fail
                    go_meet
                    case rel =>
                      have e : (!nextOk (lastN es) en.name) = (!ltS lst.name en.name) := by rw [HlN.out]; rfl
                      rw [e]
                      rw [bytesLess_ltS5]
                      first | exact ⟨rfl, rfl⟩ | ((repeat apply Exists.intro); exact ⟨⟨rfl, rfl⟩, rfl⟩)
                case rest =>
                  obtain ⟨rfl, rfl⟩ := hcut
                  obtain ⟨wd, rfl⟩ : ∃ x, x = wc := ⟨_, rfl⟩
                  cases hno : nextOk (lastN es) en.name with
                  | false =>
                    have Ho := Lib.hid (HS.out.bad (Or.inr ⟨en, a2, He.out, hno⟩))
                    clear hno
                    go_wp2_with fail
                    (try simp only [Exit.inBlock, Exit.then])
                    refine bodyPost_ret (results_tmp4 rfl _ _ _) rfl ?_
                    exact IdxPost.bad Ho.out Hb8.out _ _ _
                  | true =>
                    have Hso := Lib.hid (HS.out.next He.out hno hle)
                    clear hno
                    go_upto_region 18 with fail
                    obtain ⟨b0, _⟩ := HT8.out.tmp _ (List.mem_cons_self ..)
                    have c0 : wd.drew.heap[bx]? = some (.cells #[.slice none 0 0, .int .i64 en.pack, .int .i64 en.pos] 104 (0, 0)) := b0
                    obtain ⟨⟨x0, x1, x2⟩, q1, q2, q3⟩ := cells3_more c0
                    obtain ⟨⟨y0, y1, y2⟩, z1, z2, z3⟩ := cells3_more b0
                    have I := HT8.out
                    clear b0
                    go_region_law
                      (first
                        | (refine step_tri1 (by repeat (first | exact I | apply Tri.drew | apply Tri.alloc)) (by rfl) _ _ (by rfl) (by rfl) _ en.name (by rfl) (by simp) (by omega) ?_; intro a6 c6 w6 I; obtain ⟨⟨x0, x1, x2⟩, q1, q2, q3⟩ := cells3_more (I.tmp (bx, .cells #[.slice none 0 0, .int .i64 en.pack, .int .i64 en.pos] 104 (0, 0)) (by simp)).1)
                        | (refine step_tri2 (by repeat (first | exact I | apply Tri.drew | apply Tri.alloc)) (by rfl) _ _ (by rfl) (by rfl) _ en.pack en.pos (by rfl) (by simp) (by omega) ?_; intro a7 c7 w7' I; obtain ⟨⟨x0, x1, x2⟩, q1, q2, q3⟩ := cells3_more (I.tmp (bx, .cells #[.slice none 0 0, .int .i64 en.pack, .int .i64 en.pos] 104 (0, 0)) (by simp)).1)
                        | (refine step_tri3 (by repeat (first | exact I | apply Tri.drew | apply Tri.alloc)) (by rfl) _ _ (by rfl) (by rfl) _ en.long (by rfl) (by simp) (by omega) ?_; intro a8 c8 w8' I; obtain ⟨⟨x0, x1, x2⟩, q1, q2, q3⟩ := cells3_more (I.tmp (bx, .cells #[.slice none 0 0, .int .i64 en.pack, .int .i64 en.pos] 104 (0, 0)) (by simp)).1))
                    all_goals
                      have HI := Lib.hid I.snoc
                      clear I x0 x1 x2 q1 q2 q3 y0 y1 y2 z1 z2 z3
                      go_wp2_with fail
                      go_roundw
                      case rel => exact ⟨n1, a2, es ++ [en], _, _, _, _, _, _, by rw [List.length_append]; simp only [List.length_cons, List.length_nil]; omega, rfl, by go_num, by rw [List.length_append]; rfl, by rw [List.length_append]; rfl, by rw [List.length_append]; rfl, HI.out, Hso.out⟩
                      case measure => simp [intOf]
    · rw [decide_eq_false hm] at HHP
      have Ho := Lib.hid (Hx.out.trans (pIdx_bad0 hm))
      clear hm
      go_wp2_with (go_at_call 135; refine HHP.out.mono ?_; rintro e w2 ⟨rfl, rfl⟩)
      (try simp only [Exit.inBlock, Exit.then])
      refine bodyPost_ret (results_tmp4 rfl _ _ _) rfl ?_
      exact IdxPost.bad Ho.out HBm.out.2 _ _ _
  · have hidx := Hidx.out
    rw [if_neg h0] at hidx
    have h0b : (er != 0) = true := by simpa using h0
    have Ho := Lib.hid hidx
    clear hidx h0 Hidx
    go_enter Tryz.func103, Tryz.ntmps103
    go_wp2_with (go_at_call 134; refine HU.out.mono ?_; rintro e w1 ⟨a1, c1, rfl, hR, hB1⟩; have HR := Lib.hid (And.intro hR hB1); clear hR hB1)
    (try simp only [Exit.inBlock, Exit.then])
    refine bodyPost_ret (results_tmp4 rfl _ _ _) rfl ?_
    exact IdxPost.bad Ho.out HR.out.2 _ _ _
end Go.Proofs.YtbepcjajbcecnaaGreatDoor
