/-
  An index is read.
-/
import Derived.Test.YtbepcjajbcecnaaGreatDoorMPgB
import Derived.Test.YtbepcjajbcecnaaGreatDoorMPmF
import Derived.Outline
import Derived.BigRegion
import Derived.BigQuiet
import Derived.Deep.QuietTactic
import Derived.Deep.CutRange
namespace Go.Proofs.YtbepcjajbcecnaaGreatDoor
open Go.RowKit Go.Maps Go.MapKept
set_option linter.unusedSimpArgs false

set_option maxRecDepth 100000 in
set_option maxHeartbeats 2000000 in
theorem bsEqual_any (w : World) (va vb : Value) (x y : List UInt8) (ha : Rd w va (bcells x)) (hb : Rd w vb (bcells y)) :
    Calls Tryz.prog 157 #[va, vb] w fun e w' => e = .returned (.bool (decide (x = y))) ∧ w = w' := by
  have h1 := run_bytes_str (P := Tryz.prog) ha Tryz.underlying25 Tryz.underlying5 Tryz.underlying9
  have h2 := run_bytes_str (P := Tryz.prog) hb Tryz.underlying25 Tryz.underlying5 Tryz.underlying9
  have hfin : ((⟨x.toArray⟩ : ByteArray).toList == (⟨y.toArray⟩ : ByteArray).toList) = decide (x = y) := by
    rw [ByteArray.toList_eq, ByteArray.toList_eq]
    by_cases h : x = y <;> simp [h]
  obtain ⟨S1, hS1⟩ : ∃ S1 : ByteArray, (⟨x.toArray⟩ : ByteArray) = S1 := ⟨_, rfl⟩
  obtain ⟨S2, hS2⟩ : ∃ S2 : ByteArray, (⟨y.toArray⟩ : ByteArray) = S2 := ⟨_, rfl⟩
  rw [hS1] at h1 hfin
  rw [hS2] at h2 hfin
  have Hfin := Lib.hid hfin
  clear hS1 hS2 hfin
  obtain ⟨a1, c1, rfl⟩ := ha.shape
  obtain ⟨a2, c2, rfl⟩ := hb.shape
  go_enter Tryz.func157, Tryz.ntmps157
  go_wp2
  go_ret
  exact ⟨by rw [← Hfin.out]; rfl, rfl⟩
set_option maxRecDepth 100000 in
set_option maxHeartbeats 2000000 in
theorem bsHasPrefix_magic (w : World) (va vb : Value) (x : List UInt8) (ha : Rd w va (bcells x)) (hcap : CapOk va) (hb : Rd w vb (bcells magicI)) :
    Calls Tryz.prog 135 #[va, vb] w fun e w' => e = .returned (.bool (decide (x.take 4 = magicI))) ∧ w = w' := by
  obtain ⟨a1, c1, rfl⟩ := ha.shape
  obtain ⟨a2, c2, rfl⟩ := hb.shape
  obtain ⟨_, _, _, he, hnc, hcm⟩ := hcap
  cases he
  rw [bcells_length] at ha hnc ⊢
  rw [show (bcells magicI).length = 4 from rfl] at hb ⊢
  by_cases h4 : 4 ≤ x.length
  · have h4I : (4 : Int) ≤ (x.length : Int) := by omega
    have h4c : (4 : Int) ≤ (c1 : Int) := by omega
    have hE := bsEqual_any w (.slice a1 4 c1) (.slice a2 4 c2) (x.take 4) magicI (by
      have := rd_prefix ha 4 (by omega)
      unfold bcells at this ⊢
      rw [← List.map_take] at this
      exact this) hb
    have HE := Lib.hid hE
    clear hE ha hb
    go_enter Tryz.func135, Tryz.ntmps135
    go_wp2_with (go_at_call 157; refine HE.out.mono ?_; rintro e w1 ⟨rfl, rfl⟩)
    go_ret
    exact ⟨rfl, rfl⟩
  · have h4I : ¬ (4 : Int) ≤ (x.length : Int) := by omega
    have hfin : decide (x.take 4 = magicI) = false := by
      simp only [decide_eq_false_iff_not]
      intro e
      have := congrArg List.length e
      simp [magicI] at this
      omega
    rw [hfin]
    clear hfin ha hb h4
    go_enter Tryz.func135, Tryz.ntmps135
    go_wp2
    go_ret
    exact ⟨rfl, rfl⟩
theorem results_tmp4 {fn : Func} {t u v x : Tmp} (h : fn.results = #[.tmp t, .tmp u, .tmp v, .tmp x]) (tmps : Array Value) (P : Program) (w : World) :
    (results fn tmps).run P w = .ok (.tuple #[tmps.getD t undef, tmps.getD u undef, tmps.getD v undef, tmps.getD x undef]) w := by
  simp [results, h]
theorem cells3_more {w : World} {b : Nat} {x0 x1 x2 : Value} {T : TypeId} (h : w.heap[b]? = some (.cells #[x0, x1, x2] T (0, 0))) :
    (w.cell? ⟨b, 0, none⟩ = some x0 ∧ w.cell? ⟨b, 1, none⟩ = some x1 ∧ w.cell? ⟨b, 2, none⟩ = some x2) ∧ (∀ o, (w.alloc o).cell? ⟨b, 0, none⟩ = some x0 ∧ (w.alloc o).cell? ⟨b, 1, none⟩ = some x1 ∧ (w.alloc o).cell? ⟨b, 2, none⟩ = some x2) ∧
      (∀ o o', ((w.alloc o).alloc o').cell? ⟨b, 0, none⟩ = some x0 ∧ ((w.alloc o).alloc o').cell? ⟨b, 1, none⟩ = some x1 ∧ ((w.alloc o).alloc o').cell? ⟨b, 2, none⟩ = some x2) ∧
      (∀ o o' o'', (((w.alloc o).alloc o').alloc o'').cell? ⟨b, 0, none⟩ = some x0 ∧ (((w.alloc o).alloc o').alloc o'').cell? ⟨b, 1, none⟩ = some x1 ∧ (((w.alloc o).alloc o').alloc o'').cell? ⟨b, 2, none⟩ = some x2) := by
  have k : ∀ {w' : World}, w'.heap[b]? = some (.cells #[x0, x1, x2] T (0, 0)) → w'.cell? ⟨b, 0, none⟩ = some x0 ∧ w'.cell? ⟨b, 1, none⟩ = some x1 ∧ w'.cell? ⟨b, 2, none⟩ = some x2 := fun h => ⟨(cells3 h).1, (cells3 h).2.1, (cells3 h).2.2.1⟩
  exact ⟨k h, fun o => k (alloc_old h o), fun o o' => k (alloc_old (alloc_old h o) o'), fun o o' o'' => k (alloc_old (alloc_old (alloc_old h o) o') o'')⟩
theorem Tri.snoc {w0 w : World} {es : List AEnt} {en : AEnt} {a1 a2 a3 : Option Addr} {c1 c2 c3 : Nat} {T : List (Nat × Obj)} (h : Tri w0 w (.slice a1 (es.length + 1) c1) (.slice a2 (es.length + 1) c2) (.slice a3 (es.length + 1) c3) (es.length + 1) (es.length + 1) (es.length + 1) (es.map (fun x => Value.string x.name) ++ [.string en.name]) (es.flatMap (fun x => [Value.slice none 0 0, .int .i64 x.pack, .int .i64 x.pos]) ++ [.slice none 0 0, .int .i64 en.pack, .int .i64 en.pos]) (es.map (fun x => Value.int .i64 x.long) ++ [.int .i64 en.long]) T) :
    Tri w0 w (.slice a1 (es ++ [en]).length c1) (.slice a2 (es ++ [en]).length c2) (.slice a3 (es ++ [en]).length c3) (es ++ [en]).length (es ++ [en]).length (es ++ [en]).length ((es ++ [en]).map fun x => .string x.name) ((es ++ [en]).flatMap fun x => [.slice none 0 0, .int .i64 x.pack, .int .i64 x.pos]) ((es ++ [en]).map fun x => .int .i64 x.long) [] := by
  have := h.clear
  rw [List.length_append, List.map_append, List.flatMap_append, List.map_append]
  exact this
theorem bytesLess_ltS5 (x y : ByteArray) : Op.bytesLess x.toList y.toList = ltS x y := by
  rw [Go.Proofs.bytesLess_eq, ByteArray.toList_eq, ByteArray.toList_eq]
  rfl
def IdxPost (o : Option (List AEnt)) (w : World) (e : Ending) (w' : World) : Prop :=
  Below w.heap.size w w' ∧ match o with
  | some es => ∃ a1 c1 a2 c2 a3 c3, e = .returned (.tuple #[.slice a1 es.length c1, .slice a2 es.length c2, .slice a3 es.length c3, .bool true]) ∧ ∃ w0, w.heap.size ≤ w0.heap.size ∧ Tri w0 w' (.slice a1 es.length c1) (.slice a2 es.length c2) (.slice a3 es.length c3) es.length es.length es.length (es.map fun x => .string x.name) (es.flatMap fun x => [.slice none 0 0, .int .i64 x.pack, .int .i64 x.pos]) (es.map fun x => .int .i64 x.long) []
  | none => ∃ v1 v2 v3, e = .returned (.tuple #[v1, v2, v3, .bool false])
theorem IdxPost.bad {w w' : World} {o : Option (List AEnt)} (h : o = none) (hB : Below w.heap.size w w') (v1 v2 v3 : Value) : IdxPost o w (.returned (.tuple #[v1, v2, v3, .bool false])) w' := by
  subst h; exact ⟨hB, v1, v2, v3, rfl⟩
theorem IdxPost.good {w w' w0 : World} {o : Option (List AEnt)} {es : List AEnt} (h : o = some es) (hB : Below w.heap.size w w') {a1 a2 a3 : Option Addr} {c1 c2 c3 : Nat} (hw : w.heap.size ≤ w0.heap.size) (hT : Tri w0 w' (.slice a1 es.length c1) (.slice a2 es.length c2) (.slice a3 es.length c3) es.length es.length es.length (es.map fun x => .string x.name) (es.flatMap fun x => [.slice none 0 0, .int .i64 x.pack, .int .i64 x.pos]) (es.map fun x => .int .i64 x.long) []) :
    IdxPost o w (.returned (.tuple #[.slice a1 es.length c1, .slice a2 es.length c2, .slice a3 es.length c3, .bool true])) w' := by
  subst h; exact ⟨hB, a1, c1, a2, c2, a3, c3, rfl, w0, hw, hT⟩
set_option maxRecDepth 100000 in
set_option maxHeartbeats 8000000 in
theorem pgindex_any (w : World) (v : Value) (b : List UInt8) (k : Nat) (hv : Rd w v (bcells b)) (hcap : CapOk v) (hl : b.length ≤ 1099511627776) (hk : k ≤ 9007199254740992) :
    Calls Tryz.prog 103 #[v, .int .i64 k] w (IdxPost (pIndex b k) w) := by
  obtain ⟨er, inn, hun⟩ : ∃ er inn, unsealL sumL b = (er, inn) := ⟨_, _, rfl⟩
  have hil : inn.length ≤ b.length := by
    unfold unsealL at hun
    split at hun
    · cases hun; simp
    · split at hun
      · cases hun; simp
      · cases hun; simp
  have hidx := pIndex_un (k := k) hun
  obtain ⟨o, ho⟩ : ∃ o, pIndex b k = o := ⟨_, rfl⟩
  rw [ho] at hidx ⊢
  have hU := bUnseal_any w v b hv hcap hl
  unfold UnPost at hU
  rw [hun] at hU
  simp only at hU
  obtain ⟨av, cv, rfl⟩ := hv.shape
  have HU := Lib.hid hU
  have Hidx := Lib.hid hidx
  clear hU hidx ho hun hcap hv
  by_cases h0 : er = 0
  · subst h0
    have hidx := Hidx.out
    rw [if_pos rfl] at hidx
    have Hx := Lib.hid hidx
    clear hidx Hidx
    go_enter Tryz.func103, Tryz.ntmps103
    go_upto_region 2 with (go_at_call 134; refine HU.out.mono ?_; rintro e w1 ⟨a1, c1, rfl, hR, hB1⟩; have HR := Lib.hid (And.intro hR hB1); clear hR hB1)
    have hBm : Below w1.heap.size w1 (w1.alloc (.cells #[.int .u8 72, .int .u8 83, .int .u8 73, .int .u8 49] 5 (4, 5))) := (Below.refl _ _).alloc (Nat.le_refl _) _
    obtain ⟨_, _, hv1, hnc1, hcm1, _⟩ := row_slice (ownsRow_base0 HR.out.1)
    cases hv1
    have hcap1 : CapOk (.slice a1 inn.length c1) := ⟨_, _, _, rfl, hnc1, hcm1⟩
    have hHP := bsHasPrefix_magic _ _ _ inn ((Rd.ofOwns HR.out.1).below hBm) hcap1 (Rd_new w1 #[.int .u8 72, .int .u8 83, .int .u8 73, .int .u8 49] 5 (4, 5) (bcells magicI) 4 4 rfl rfl)
    have hBm2 : Below w.heap.size w (w1.alloc (.cells #[.int .u8 72, .int .u8 83, .int .u8 73, .int .u8 49] 5 (4, 5))) := HR.out.2.trans (hBm.mono HR.out.2.size)
    have kc := Lib.run_convert_bytes_const (P := Tryz.prog) w1 25 5 #[.int .u8 72, .int .u8 83, .int .u8 73, .int .u8 49] 4 4 Tryz.underlying25 Tryz.underlying5
    have HHP := Lib.hid hHP
    have HBm := Lib.hid (And.intro hBm hBm2)
    have Hcap := Lib.hid hcap1
    clear hBm hBm2 hHP hnc1 hcm1 hcap1
    by_cases hm : inn.take 4 = magicI
    · rw [decide_eq_true hm] at HHP
      have h4 : 4 ≤ inn.length := by
        have := congrArg List.length hm
        simp [magicI] at this
        omega
      obtain ⟨w2, hw2⟩ : ∃ x, w1.alloc (.cells #[.int .u8 72, .int .u8 83, .int .u8 73, .int .u8 49] 5 (4, 5)) = x := ⟨_, rfl⟩
      have hrd2 : Rd w2 (.slice a1 inn.length c1) (bcells inn) := by rw [← hw2]; exact (Rd.ofOwns HR.out.1).below HBm.out.1
      have hB2 : Below w.heap.size w w2 := by rw [← hw2]; exact HBm.out.2
      rw [hw2] at HHP
      have hlow2 : bcells inn ≠ [] → ∀ g, (Value.slice a1 inn.length c1).ownBlock = some g → g < w2.heap.size := fun hne g hg => rd_blk5 hrd2 hne g hg
      have Hrd := Lib.hid (And.intro hrd2 hB2)
      have Hw2 := Lib.hid hw2
      have Hm := Lib.hid hm
      clear HBm hrd2 hB2 hw2 hlow2 hm
      obtain ⟨e1, x, j, hg1⟩ : ∃ er x y, gU (inn.drop 4) = (er, x, y) := ⟨_, _, _, rfl⟩
      have hG1 := bGetUint_any w2 _ inn 4 Hrd.out.1 Hcap.out h4 (by omega)
      unfold GuPost guVal guNext guErr at hG1
      rw [hg1, show (((4 : Nat) : Nat) : Int) = 4 from rfl] at hG1
      simp only at hG1
      have hx64 := gU_lt hg1
      have hkw : IntKind.u64.wrap (k : Int) = k := IntWalk.u64_in _ (by omega)
      obtain ⟨p4, hp4⟩ : ∃ p4 : Nat, (if e1 = 0 then (4 : Int) + (j : Int) else 0) = (p4 : Int) := ⟨if e1 = 0 then 4 + j else 0, by split <;> simp⟩
      rw [hp4] at hG1
      have HG1 := Lib.hid hG1
      clear hG1
      by_cases hb1 : e1 ≠ 0 ∨ x ≠ k
      · have Ho := Lib.hid (Hx.out.trans (pIdx_bad1 hg1 hb1))
        have hI1 : (e1 != 0) = true ∨ ((e1 != 0) = false ∧ ((x : Int) != (k : Int)) = true) := by
          by_cases h : e1 = 0
          · right
            refine ⟨by simp [h], ?_⟩
            rcases hb1 with hb1 | hb1
            · exact absurd h hb1
            · simpa using (fun e => hb1 (by omega) : ¬ (x : Int) = (k : Int))
          · left; simpa using h
        clear hb1 hg1 hp4
        rcases hI1 with hI1 | ⟨hI1, hI2⟩
        all_goals
          go_wp2_with first
            | (go_at_call 135; rw [Hw2.out]; refine HHP.out.mono ?_; rintro e w3 ⟨rfl, rfl⟩)
            | (go_at_call 136; refine HG1.out.mono ?_; rintro e w4 ⟨rfl, hB4⟩; have HB4 := Lib.hid hB4; clear hB4)
          (try simp only [Exit.inBlock, Exit.then])
          refine bodyPost_ret (results_tmp4 rfl _ _ _) rfl ?_
          exact IdxPost.bad Ho.out (Hrd.out.2.trans (HB4.out.mono Hrd.out.2.size)) _ _ _
      · obtain rfl : e1 = 0 := by
          by_cases h : e1 = 0
          · exact h
          · exact absurd (Or.inl h) hb1
        obtain rfl : x = k := by
          by_cases h : x = k
          · exact h
          · exact absurd (Or.inr h) hb1
        rw [if_pos rfl] at hp4
        obtain rfl : p4 = 4 + j := by omega
        clear hb1 hp4
        have hj4 := gU_at h4 hg1
        obtain ⟨e2, n, j2, hg2⟩ : ∃ er x y, gU (inn.drop (4 + j)) = (er, x, y) := ⟨_, _, _, rfl⟩
        have hG2 := fun w5 (h5 : Below w2.heap.size w2 w5) => bGetUint_any w5 _ inn (4 + j) (Hrd.out.1.below h5) Hcap.out hj4 (by omega)
        unfold GuPost guVal guNext guErr at hG2
        rw [hg2] at hG2
        simp only at hG2
        have hn64 := gU_lt hg2
        obtain ⟨p5, hp5⟩ : ∃ p5 : Nat, (if e2 = 0 then ((4 + j : Nat) : Int) + (j2 : Int) else 0) = (p5 : Int) := ⟨if e2 = 0 then 4 + j + j2 else 0, by split <;> simp⟩
        rw [hp5] at hG2
        have HG2 := Lib.hid hG2
        have hxx : ((x : Int) != (x : Int)) = false := by simp
        clear hG2
        by_cases hb2 : e2 ≠ 0 ∨ 4096 < n
        · have Ho := Lib.hid (Hx.out.trans (pIdx_bad2 hg1 hg2 hb2))
          have hI1 : (e2 != 0) = true ∨ ((e2 != 0) = false ∧ (4096 : Int) < (n : Int)) := by
            by_cases h : e2 = 0
            · right
              refine ⟨by simp [h], ?_⟩
              rcases hb2 with hb2 | hb2
              · exact absurd h hb2
              · omega
            · left; simpa using h
          clear hb2 hg2 hp5 hg1
          rcases hI1 with hI1 | ⟨hI1, hI2⟩
          all_goals
            go_wp2_with first
              | (go_at_call 135; rw [Hw2.out]; refine HHP.out.mono ?_; rintro e w3 ⟨rfl, rfl⟩)
              | (go_at_call 136; with_reducible refine HG1.out.mono ?_; rintro e w4 ⟨rfl, hB4⟩; have HB4 := Lib.hid hB4; clear hB4)
              | (go_at_call 136; refine (HG2.out w4 HB4.out).mono ?_; rintro e w5 ⟨rfl, hB5⟩; have HB5 := Lib.hid (HB4.out.trans (hB5.mono HB4.out.size)); clear hB5)
            (try simp only [Exit.inBlock, Exit.then])
            refine bodyPost_ret (results_tmp4 rfl _ _ _) rfl ?_
            exact IdxPost.bad Ho.out (Hrd.out.2.trans (HB5.out.mono Hrd.out.2.size)) _ _ _
        · obtain rfl : e2 = 0 := by
            by_cases h : e2 = 0
            · exact h
            · exact absurd (Or.inl h) hb2
          have hn4 : n ≤ 4096 := by
            by_cases h : n ≤ 4096
            · exact h
            · exact absurd (Or.inr (by omega)) hb2
          have hnI : ¬ (4096 : Int) < (n : Int) := by omega
          rw [if_pos rfl] at hp5
          obtain rfl : p5 = 4 + j + j2 := by omega
          have hj5 := gU_at hj4 hg2
          have hso : IdxSo inn x o n (4 + j + j2) [] := ⟨hj5, by rw [Hx.out, pIdx_go Hm.out hg1 hg2 hn4]; show _ = match (pEnts x n (inn.drop (4 + j + j2)) none).map (fun r => ([] ++ r.1, r.2)) with | some (es, []) => some es | _ => none; cases pEnts x n (inn.drop (4 + j + j2)) none with | none => rfl | some r => rfl⟩
          have Hso := Lib.hid hso
          clear hb2 hp5 hj5 hso hg1 hg2
          go_upto_region 13 with first
            | (go_at_call 135; rw [Hw2.out]; refine HHP.out.mono ?_; rintro e w3 ⟨rfl, rfl⟩)
            | (go_at_call 136; with_reducible refine HG1.out.mono ?_; rintro e w4 ⟨rfl, hB4⟩; have HB4 := Lib.hid hB4; clear hB4)
            | (go_at_call 136; refine (HG2.out w4 HB4.out).mono ?_; rintro e w5 ⟨rfl, hB5⟩; have HB5 := Lib.hid (HB4.out.trans (hB5.mono HB4.out.size)); clear hB5)
          have hr5 : Rd w5 (.slice a1 inn.length c1) (bcells inn) := Hrd.out.1.below HB5.out
          have hbw5 : Below w.heap.size w w5 := Hrd.out.2.trans (HB5.out.mono Hrd.out.2.size)
          have Hr5 := Lib.hid (And.intro hr5 hbw5)
          clear hr5 hbw5
          go_loopw [11, 12, 13, 14, 15, 16, 17, 18, 19, 20] (fun av nv kv lv mv _ _ _ _ _ wr => ∃ (n' at_ : Nat) (es : List AEnt) (k1 : Option Addr) (d1 : Nat) (k2 : Option Addr) (d2 : Nat) (k3 : Option Addr) (d3 : Nat), n' + es.length ≤ 4096 ∧ av = .int .i64 at_ ∧ nv = .int .u64 n' ∧ kv = .slice k1 es.length d1 ∧ lv = .slice k2 es.length d2 ∧ mv = .slice k3 es.length d3 ∧
            Tri w5 wr (.slice k1 es.length d1) (.slice k2 es.length d2) (.slice k3 es.length d3) es.length es.length es.length (es.map fun x => .string x.name) (es.flatMap fun x => [.slice none 0 0, .int .i64 x.pack, .int .i64 x.pos]) (es.map fun x => .int .i64 x.long) [] ∧ IdxSo inn x o n' at_ es) (fun _ nv _ _ _ _ _ _ _ _ _ => (intOf nv).toNat)
          case atStart => exact ⟨n, 4 + j + j2, [], none, 0, none, 0, none, 0, by simpa using hn4, rfl, rfl, rfl, rfl, rfl, Tri.start _, Hso.out⟩
          case round =>
            obtain ⟨n', at_, es, k1, d1, k2, d2, k3, d3, hne, rfl, rfl, rfl, rfl, rfl, hT, hso⟩ := hrel
            have HT := Lib.hid hT
            have HS := Lib.hid hso
            clear hT hso Hso
            by_cases hn0 : n' = 0
            · subst hn0
              have hdone := HS.out.done
              have hBf : Below w.heap.size w wr := Hr5.out.2.trans (HT.out.bel.mono Hr5.out.2.size)
              have hw5 : w.heap.size ≤ w5.heap.size := Hr5.out.2.size
              by_cases hat : at_ = inn.length
              · have hatb : ((at_ : Int) == (inn.length : Int)) = true := by simp [hat]
                have Ho := Lib.hid (hdone.trans (if_pos hat))
                have HBf := Lib.hid hBf
                clear hdone hat hBf
                go_wp2_with fail
                (try simp only [Exit.inBlock, Exit.then])
                refine bodyPost_ret (results_tmp4 rfl _ _ _) rfl ?_
                exact IdxPost.good Ho.out HBf.out hw5 HT.out
              · have hatb : ((at_ : Int) == (inn.length : Int)) = false := by simpa using (fun e => hat (by omega) : ¬ (at_ : Int) = (inn.length : Int))
                have Ho := Lib.hid (hdone.trans (if_neg hat))
                have HBf := Lib.hid hBf
                clear hdone hat hBf
                go_wp2_with fail
                (try simp only [Exit.inBlock, Exit.then])
                refine bodyPost_ret (results_tmp4 rfl _ _ _) rfl ?_
                exact IdxPost.bad Ho.out HBf.out _ _ _
            · obtain ⟨n1, rfl⟩ : ∃ n1, n' = n1 + 1 := ⟨n' - 1, by omega⟩
              have hnI : (0 : Int) < ((n1 + 1 : Nat) : Int) := by omega
              have hE := pgentry_any wr _ inn at_ x (Hr5.out.1.below HT.out.bel) Hcap.out HS.out.le (by omega) hk
              cases he : pEntA inn at_ x with
              | none =>
                rw [he] at hE
                obtain Ho := Lib.hid (HS.out.bad (Or.inl he))
                have HE := Lib.hid hE
                clear hE he hn0
                go_wp2_with first
                  | (go_at_call 137; refine HE.out.mono ?_; rintro e w7 ⟨hB7, s, p1, p2, p3, p4, rfl⟩; have HB7 := Lib.hid hB7; clear hB7)
                (try simp only [Exit.inBlock, Exit.then])
                refine bodyPost_ret (results_tmp4 rfl _ _ _) rfl ?_
                exact IdxPost.bad Ho.out (Hr5.out.2.trans (((HT.out.bel.trans (HB7.out.mono HT.out.bel.size)).alloc (Nat.le_trans HT.out.bel.size HB7.out.size) _).mono Hr5.out.2.size)) _ _ _
              | some z =>
                obtain ⟨en, a2⟩ := z
                rw [he] at hE
                have hle := pEntA_le HS.out.le he
                have HE := Lib.hid hE
                have He := Lib.hid he
                clear hE he hn0
                go_upto_region 16 with first
                  | (go_at_call 137; refine HE.out.mono ?_; rintro e w7 ⟨hB7, rfl⟩; have HB7 := Lib.hid hB7; clear hB7)
                have hBx : Below w5.heap.size w5 w7 := HT.out.bel.trans (HB7.out.mono HT.out.bel.size)
                have hT8 := (HT.out.below HB7.out).alloc (.cells #[.slice none 0 0, .int .i64 en.pack, .int .i64 en.pos] 104)
                obtain ⟨bx, hbx⟩ : ∃ y, w7.heap.size = y := ⟨_, rfl⟩
                obtain ⟨w8, hw8⟩ : ∃ y, w7.alloc (.cells #[.slice none 0 0, .int .i64 en.pack, .int .i64 en.pos] 104) = y := ⟨_, rfl⟩
                rw [hw8, hbx] at hT8
                rw [hw8, hbx]
                have hb8 : Below w.heap.size w w8 := Hr5.out.2.trans (hT8.bel.mono Hr5.out.2.size)
                have HT8 := Lib.hid hT8
                have Hb8 := Lib.hid hb8
                clear hT8 hb8 hBx hbx hw8
                go_cut [92] from 76 to 105 (fun bv wx => bv = .bool (!nextOk (lastN es) en.name) ∧ wx = w8)
                case first =>
                  by_cases hes : es = []
                  · subst hes
                    have HT9 := HT8.out
                    go_wp2_with fail
                    go_meet
                    case rel => first | exact ⟨rfl, rfl⟩ | ((repeat apply Exists.intro); exact ⟨⟨rfl, rfl⟩, rfl⟩)
                  · have hl0 : 0 < es.length := List.length_pos_iff.2 hes
                    have hl0I : (0 : Int) < (es.length : Int) := by omega
                    obtain ⟨gb, c', hv, _, hgl, hcells⟩ := row_cell HT8.out.r1 (es.length - 1) (by omega)
                    cases hv
                    obtain ⟨lst, hlst⟩ : ∃ l, es[es.length - 1]? = some l := ⟨_, List.getElem?_eq_getElem (by omega)⟩
                    have hcl : w8.cell? ⟨gb, es.length - 1, none⟩ = some (.string lst.name) := (hcells (es.length - 1) (by omega)).trans (by rw [List.getElem?_map, hlst]; rfl)
                    have hlN : lastN es = some lst.name := by unfold lastN; rw [List.getLast?_eq_getElem?, hlst]; rfl
                    have HlN := Lib.hid hlN
                    clear hlN hcells hlst hes
                    go_wp2_with fail
                    go_meet
                    case rel =>
                      have e : (!nextOk (lastN es) en.name) = (!ltS lst.name en.name) := by rw [HlN.out]; rfl
                      rw [e]
                      rw [bytesLess_ltS5]
                      first | exact ⟨rfl, rfl⟩ | ((repeat apply Exists.intro); exact ⟨⟨rfl, rfl⟩, rfl⟩)
                case rest =>
                  obtain ⟨rfl, rfl⟩ := hcut
                  obtain ⟨wd, rfl⟩ : ∃ x, x = wc := ⟨_, rfl⟩
                  cases hno : nextOk (lastN es) en.name with
                  | false =>
                    have Ho := Lib.hid (HS.out.bad (Or.inr ⟨en, a2, He.out, hno⟩))
                    clear hno
                    go_wp2_with fail
                    (try simp only [Exit.inBlock, Exit.then])
                    refine bodyPost_ret (results_tmp4 rfl _ _ _) rfl ?_
                    exact IdxPost.bad Ho.out Hb8.out _ _ _
                  | true =>
                    have Hso := Lib.hid (HS.out.next He.out hno hle)
                    clear hno
                    go_upto_region 18 with fail
                    obtain ⟨b0, _⟩ := HT8.out.tmp _ (List.mem_cons_self ..)
                    have c0 : wd.drew.heap[bx]? = some (.cells #[.slice none 0 0, .int .i64 en.pack, .int .i64 en.pos] 104 (0, 0)) := b0
                    obtain ⟨⟨x0, x1, x2⟩, q1, q2, q3⟩ := cells3_more c0
                    obtain ⟨⟨y0, y1, y2⟩, z1, z2, z3⟩ := cells3_more b0
                    have I := HT8.out
                    clear b0
                    go_region_law
                      (first
                        | (refine step_tri1 (by repeat (first | exact I | apply Tri.drew | apply Tri.alloc)) (by rfl) _ _ (by rfl) (by rfl) _ en.name (by rfl) (by simp) (by omega) ?_; intro a6 c6 w6 I; obtain ⟨⟨x0, x1, x2⟩, q1, q2, q3⟩ := cells3_more (I.tmp (bx, .cells #[.slice none 0 0, .int .i64 en.pack, .int .i64 en.pos] 104 (0, 0)) (by simp)).1)
                        | (refine step_tri2 (by repeat (first | exact I | apply Tri.drew | apply Tri.alloc)) (by rfl) _ _ (by rfl) (by rfl) _ en.pack en.pos (by rfl) (by simp) (by omega) ?_; intro a7 c7 w7' I; obtain ⟨⟨x0, x1, x2⟩, q1, q2, q3⟩ := cells3_more (I.tmp (bx, .cells #[.slice none 0 0, .int .i64 en.pack, .int .i64 en.pos] 104 (0, 0)) (by simp)).1)
                        | (refine step_tri3 (by repeat (first | exact I | apply Tri.drew | apply Tri.alloc)) (by rfl) _ _ (by rfl) (by rfl) _ en.long (by rfl) (by simp) (by omega) ?_; intro a8 c8 w8' I; obtain ⟨⟨x0, x1, x2⟩, q1, q2, q3⟩ := cells3_more (I.tmp (bx, .cells #[.slice none 0 0, .int .i64 en.pack, .int .i64 en.pos] 104 (0, 0)) (by simp)).1))
                    all_goals
                      have HI := Lib.hid I.snoc
                      clear I x0 x1 x2 q1 q2 q3 y0 y1 y2 z1 z2 z3
                      go_wp2_with fail
                      go_roundw
                      case rel => exact ⟨n1, a2, es ++ [en], _, _, _, _, _, _, by rw [List.length_append]; simp only [List.length_cons, List.length_nil]; omega, rfl, by go_num, by rw [List.length_append]; rfl, by rw [List.length_append]; rfl, by rw [List.length_append]; rfl, HI.out, Hso.out⟩
                      case measure => simp [intOf]
    · rw [decide_eq_false hm] at HHP
      have Ho := Lib.hid (Hx.out.trans (pIdx_bad0 hm))
      clear hm
      go_wp2_with (go_at_call 135; refine HHP.out.mono ?_; rintro e w2 ⟨rfl, rfl⟩)
      (try simp only [Exit.inBlock, Exit.then])
      refine bodyPost_ret (results_tmp4 rfl _ _ _) rfl ?_
      exact IdxPost.bad Ho.out HBm.out.2 _ _ _
  · have hidx := Hidx.out
    rw [if_neg h0] at hidx
    have h0b : (er != 0) = true := by simpa using h0
    have Ho := Lib.hid hidx
    clear hidx h0 Hidx
    go_enter Tryz.func103, Tryz.ntmps103
    go_wp2_with (go_at_call 134; refine HU.out.mono ?_; rintro e w1 ⟨a1, c1, rfl, hR, hB1⟩; have HR := Lib.hid (And.intro hR hB1); clear hR hB1)
    (try simp only [Exit.inBlock, Exit.then])
    refine bodyPost_ret (results_tmp4 rfl _ _ _) rfl ?_
    exact IdxPost.bad Ho.out HR.out.2 _ _ _
end Go.Proofs.YtbepcjajbcecnaaGreatDoor

/-
  A commit is loaded.
-/
namespace Go.Proofs.YtbepcjajbcecnaaGreatDoor
open Go.RowKit Go.Maps Go.MapKept
set_option linter.unusedSimpArgs false

def LoadPost (w : World) (r : List (ByteArray × ABlob) × Int) (e : Ending) (w' : World) : Prop :=
  Below w.heap.size w w' ∧ if r.2 = 0 then ∃ mk S g, e = .returned (.tuple #[.map (some mk), .int .i64 0]) ∧ (w.heap.size ≤ mk ∧ mk < w'.heap.size) ∧ KeysAt w' mk S g r.1 ∧ (∀ j, S j → mk < j ∧ j < w'.heap.size) else e = .returned (.tuple #[.map none, .int .i64 r.2])
theorem LoadPost.bad {w w' : World} {r : List (ByteArray × ABlob) × Int} {er : Int} (h : r = ([], er)) (h0 : er ≠ 0) (hB : Below w.heap.size w w') : LoadPost w r (.returned (.tuple #[.map none, .int .i64 er])) w' := by
  subst h
  exact ⟨hB, by rw [if_neg h0]⟩
theorem LoadPost.good {w w' : World} {r : List (ByteArray × ABlob) × Int} {l : List (ByteArray × ABlob)} (h : r = (l, 0)) (hB : Below w.heap.size w w') {mk : Nat} {S : Nat → Prop} {g : Value → Option Value} (hm : w.heap.size ≤ mk ∧ mk < w'.heap.size) (hK : KeysAt w' mk S g l) (hS : ∀ j, S j → mk < j ∧ j < w'.heap.size) : LoadPost w r (.returned (.tuple #[.map (some mk), .int .i64 0])) w' := by
  subst h
  exact ⟨hB, by rw [if_pos rfl]; exact ⟨mk, S, g, rfl, hm, hK, hS⟩⟩
theorem IdxPost.any {w : World} {o : Option (List AEnt)} {e : Ending} {w' : World} (h : IdxPost o w e w') : ∃ v1 v2 v3 b, e = .returned (.tuple #[v1, v2, v3, .bool b]) ∧ Below w.heap.size w w' := by
  obtain ⟨hB, h⟩ := h
  cases o with
  | none => obtain ⟨v1, v2, v3, e⟩ := h; exact ⟨v1, v2, v3, false, e, hB⟩
  | some es => obtain ⟨a1, c1, a2, c2, a3, c3, e, _⟩ := h; exact ⟨_, _, _, true, e, hB⟩
/-- the j-th entry's cells. -/
theorem Tri.at {w0 w : World} {es : List AEnt} {a1 a2 a3 : Option Addr} {c1 c2 c3 : Nat} {T : List (Nat × Obj)} (h : Tri w0 w (.slice a1 es.length c1) (.slice a2 es.length c2) (.slice a3 es.length c3) es.length es.length es.length (es.map fun x => .string x.name) (es.flatMap fun x => [.slice none 0 0, .int .i64 x.pack, .int .i64 x.pos]) (es.map fun x => .int .i64 x.long) T) (j : Nat) (hj : j < es.length) :
    ∃ g1 g2 g3, a1 = some ⟨g1, 0, none⟩ ∧ a2 = some ⟨g2, 0, none⟩ ∧ a3 = some ⟨g3, 0, none⟩ ∧ (w0.heap.size ≤ g1 ∧ w0.heap.size ≤ g2 ∧ w0.heap.size ≤ g3) ∧ w.cell? ⟨g1, j, none⟩ = some (.string es[j].name) ∧ w.cell? ⟨g2, j * 3, none⟩ = some (.slice none 0 0) ∧ w.cell? ⟨g2, j * 3 + 1, none⟩ = some (.int .i64 es[j].pack) ∧ w.cell? ⟨g2, j * 3 + 2, none⟩ = some (.int .i64 es[j].pos) ∧ w.cell? ⟨g3, j, none⟩ = some (.int .i64 es[j].long) := by
  obtain ⟨g1, d1, e1, k1, _, m1⟩ := row_cell h.r1 j hj
  obtain ⟨g3, d3, e3, k3, _, m3⟩ := row_cell h.r3 j hj
  cases e1
  cases e3
  have hr2 := h.r2
  rcases hr2.2 with ⟨_, hz⟩ | ⟨g2, cap, cur, he, hg, _, hnc, _⟩
  · omega
  · cases he
    have hc : ∀ q u, (es.flatMap fun x => [Value.slice none 0 0, .int .i64 x.pack, .int .i64 x.pos])[q]? = some u → w.cell? ⟨g2, q, none⟩ = some u := fun q u hu => by
      have := hr2.cells (g := g2) rfl q u hu
      rwa [Addr.add_lit, Nat.zero_add] at this
    have hget : ∀ (l : List AEnt) (i q : Nat) (hi : i < l.length), q < 3 → (l.flatMap fun x => [Value.slice none 0 0, .int .i64 x.pack, .int .i64 x.pos])[i * 3 + q]? = [Value.slice none 0 0, .int .i64 l[i].pack, .int .i64 l[i].pos][q]? := by
      intro l
      induction l with
      | nil => intro i q hi; simp at hi
      | cons x l ih =>
        intro i q hi hq
        rw [List.flatMap_cons]
        cases i with
        | zero =>
          rw [Nat.zero_mul, Nat.zero_add, List.getElem?_append_left (by simpa using hq)]
          rfl
        | succ i =>
          rw [List.getElem?_append_right (by simp; omega)]
          rw [show (i + 1) * 3 + q - [Value.slice none 0 0, Value.int .i64 x.pack, Value.int .i64 x.pos].length = i * 3 + q by simp; omega]
          rw [ih i q (by simpa using hi) hq]
          rfl
    refine ⟨g1, g2, g3, rfl, rfl, rfl, ⟨k1, hg, k3⟩, (m1 j hj).trans (by rw [List.getElem?_map, List.getElem?_eq_getElem hj]; rfl), hc _ _ ?_, hc _ _ ?_, hc _ _ ?_, (m3 j hj).trans (by rw [List.getElem?_map, List.getElem?_eq_getElem hj]; rfl)⟩
    · exact hget es j 0 hj (by omega)
    · exact hget es j 1 hj (by omega)
    · exact hget es j 2 hj (by omega)
theorem rd_sub5 {w : World} {a : Option Addr} {n c : Nat} {xs : List Value} (hr : Rd w (.slice a n c) xs) (hnc : n ≤ c) (lo m : Nat) (h : lo + m ≤ n) : Rd w (.slice (if c = lo then a else a.map (fun x => x.add lo)) m (c - lo)) ((xs.drop lo).take m) := by
  by_cases hc : c = lo
  · rw [if_pos hc]
    have hm : m = 0 := by omega
    subst hm
    rw [hc, Nat.sub_self, List.take_zero]
    cases a with
    | none => exact Or.inl ⟨Or.inl rfl, rfl⟩
    | some a => exact Or.inl ⟨Or.inr ⟨a, 0, rfl⟩, rfl⟩
  · rw [if_neg hc]
    exact rd_sub hr lo m h hc
theorem own_any5 {a : Option Addr} {n n' c c' q : Nat} (h : (Value.slice a n c).ownBlock = some q) : (Value.slice a n' c').ownBlock = some q := by
  cases a with
  | none => cases h
  | some y => exact h
theorem own_add5 {a : Option Addr} {n n' c c' q lo : Nat} (h : (Value.slice (Option.map (fun y => y.add lo) a) n c).ownBlock = some q) : (Value.slice a n' c').ownBlock = some q := by
  cases a with
  | none => cases h
  | some y =>
    rw [← h]
    obtain ⟨b, o, pp⟩ := y
    cases pp <;> (simp [Value.ownBlock, Addr.add]; split <;> rfl)
section
variable {ex : Nat → Prop} {w : World} {p m : Nat} {d : ADisk}
set_option maxRecDepth 100000 in
set_option maxHeartbeats 8000000 in
theorem pgload_at (h : DiskAt ex w p m d) (hE : WEnv w) (k : Nat) (hk : k ≤ 9007199254740992) :
    Calls Tryz.prog 60 #[.pointer (some ⟨p, 0, none⟩), .int .i64 k] w (LoadPost w (pLoad d k)) := by
  have hB0 : Below w.heap.size w (w.alloc (.map #[] 0)) := (Below.refl _ _).alloc (Nat.le_refl _) _
  have hF := pgfile_any (w.alloc (.map #[] 0)) 105 k (by omega) (hE.below hB0)
  have hsz : (iName k).size ≤ 17 := pgName_size hk
  obtain ⟨s, hs⟩ : ∃ s, iName k = s := ⟨_, rfl⟩
  rw [show pgName 105 k = s from hs] at hF
  rw [hs] at hsz
  obtain ⟨er, her⟩ : ∃ er, findErr d s = er := ⟨_, rfl⟩
  obtain ⟨bs, hbs⟩ : ∃ bs, d.readBytes s = bs := ⟨_, rfl⟩
  have hbl : bs.length ≤ 16777216 := by rw [← hbs]; exact readBytes_le h.wf s
  have hR := fun w2 (hB : Below w.heap.size w w2) => Read_at s (h.below hB) (by simp only [maxLen]; omega)
  rw [her, hbs] at hR
  have hM := MapIs.made Tryz.prog 9 w
  have hmm := @run_makeMap Tryz.prog
  obtain ⟨r, hr⟩ : ∃ r, pLoad d k = r := ⟨_, rfl⟩
  rw [hr]
  have HF := Lib.hid hF
  have HR := Lib.hid hR
  have HM := Lib.hid hM
  have H := Lib.hid h
  have HEn := Lib.hid hE
  have Hr := Lib.hid hr
  have Hs := Lib.hid (And.intro hs (And.intro her hbs))
  have hmk : ∀ w', Below (w.alloc (.map #[] 0)).heap.size (w.alloc (.map #[] 0)) w' → Below w.heap.size w w' ∧ (w.heap.size ≤ w.heap.size ∧ w.heap.size < w'.heap.size) ∧ KeysAt w' w.heap.size (fun _ => False) (fun _ => none) [] := fun w' hB => by
    have hs1 : (w.alloc (.map #[] 0)).heap.size = w.heap.size + 1 := by simp
    have hs2 := hB.size
    exact ⟨hB0.trans (hB.mono hB0.size), ⟨Nat.le_refl _, by omega⟩, keys_nil _ (HM.out.upd (Upd.ofBelow (fp := noFp) hB) (fun h => h))⟩
  have Hmk := Lib.hid hmk
  have HB0 := Lib.hid hB0
  clear hF hR hM hr h hE hs her hbs hmk
  by_cases h0 : er = 0
  · subst h0
    have hI := fun w3 v (h3 : Rd w3 v (bcells bs)) (hc : CapOk v) => pgindex_any w3 v bs k h3 hc (by omega) hk
    by_cases hk0 : k = 0
    · subst hk0
      have Hg := Lib.hid (show r = ([], 0) by rw [← Hr.out]; exact pLoad_zero (by rw [Hs.out.1]; exact Hs.out.2.1))
      have HI := Lib.hid hI
      clear hI
      go_enter Tryz.func60, Tryz.ntmps60
      go_wp2_with first
        | (go_at_call 52; refine HF.out.mono ?_; rintro e w2 ⟨rfl, hB2⟩; have HB2 := Lib.hid hB2; clear hB2)
        | (go_at_call 26; refine (HR.out w2 (Hmk.out w2 HB2.out).1).mono ?_; rintro e w3 ⟨a, c, rfl, hrow, hB3⟩; obtain ⟨_, _, hv3, hnc3, hcm3, _⟩ := row_slice (ownsRow_base0 hrow); cases hv3; have Hrow := Lib.hid (And.intro hrow (And.intro hnc3 hcm3)); have HB3 := Lib.hid (HB2.out.trans (hB3.mono HB2.out.size)); clear hrow hB3 hnc3 hcm3)
        | (go_at_call 103; refine (HI.out w3 _ (Rd.ofOwns Hrow.out.1) ⟨_, _, _, rfl, Hrow.out.2.1, Hrow.out.2.2⟩).mono ?_; intro e w4 hP; obtain ⟨v1, v2, v3, b, rfl, hB4⟩ := hP.any; have HB4 := Lib.hid (HB3.out.trans (hB4.mono HB3.out.size)); clear hP hB4)
      go_ret2
      obtain ⟨m1, m2, m3⟩ := Hmk.out w4 HB4.out
      exact LoadPost.good Hg.out m1 m2 m3 (fun _ h => h.elim)
    · have hk0I : ((k : Int) == 0) = false := by simpa using (fun e => hk0 (by omega) : ¬ (k : Int) = 0)
      cases hi : pIndex bs k with
      | none =>
        have Hg := Lib.hid (show r = ([], 14) by rw [← Hr.out]; exact pLoad_none (by rw [Hs.out.1]; exact Hs.out.2.1) hk0 (by rw [Hs.out.1, Hs.out.2.2]; exact hi))
        rw [hi] at hI
        have HI := Lib.hid hI
        clear hI hi hk0
        go_enter Tryz.func60, Tryz.ntmps60
        go_wp2_with first
          | (go_at_call 52; refine HF.out.mono ?_; rintro e w2 ⟨rfl, hB2⟩; have HB2 := Lib.hid hB2; clear hB2)
          | (go_at_call 26; refine (HR.out w2 (Hmk.out w2 HB2.out).1).mono ?_; rintro e w3 ⟨a, c, rfl, hrow, hB3⟩; obtain ⟨_, _, hv3, hnc3, hcm3, _⟩ := row_slice (ownsRow_base0 hrow); cases hv3; have Hrow := Lib.hid (And.intro hrow (And.intro hnc3 hcm3)); have HB3 := Lib.hid (HB2.out.trans (hB3.mono HB2.out.size)); clear hrow hB3 hnc3 hcm3)
          | (go_at_call 103; refine (HI.out w3 _ (Rd.ofOwns Hrow.out.1) ⟨_, _, _, rfl, Hrow.out.2.1, Hrow.out.2.2⟩).mono ?_; rintro e w4 ⟨hB4, v1, v2, v3, rfl⟩; have HB4 := Lib.hid (HB3.out.trans (hB4.mono HB3.out.size)); clear hB4)
        go_ret2
        exact LoadPost.bad Hg.out (by decide) (Hmk.out w4 HB4.out).1
      | some es =>
        have hes := pIndex_ents hi
        rw [hi] at hI
        have HI := Lib.hid hI
        have Hes := Lib.hid (And.intro hes hi)
        clear hI hi hes
        go_enter Tryz.func60, Tryz.ntmps60
        go_upto_region 15 with first
          | (go_at_call 52; refine HF.out.mono ?_; rintro e w2 ⟨rfl, hB2⟩; have HB2 := Lib.hid hB2; clear hB2)
          | (go_at_call 26; refine (HR.out w2 (Hmk.out w2 HB2.out).1).mono ?_; rintro e w3 ⟨a, c, rfl, hrow, hB3⟩; obtain ⟨_, _, hv3, hnc3, hcm3, _⟩ := row_slice (ownsRow_base0 hrow); cases hv3; have Hrow := Lib.hid (And.intro hrow (And.intro hnc3 hcm3)); have HB3 := Lib.hid (HB2.out.trans (hB3.mono HB2.out.size)); clear hrow hB3 hnc3 hcm3)
          | (go_at_call 103; refine (HI.out w3 _ (Rd.ofOwns Hrow.out.1) ⟨_, _, _, rfl, Hrow.out.2.1, Hrow.out.2.2⟩).mono ?_; rintro e w4 ⟨hB4, a1, c1, a2, c2, a3, c3, rfl, w0, hw0, hT⟩; have HT := Lib.hid (And.intro hT hw0); have HB4 := Lib.hid (HB3.out.trans (hB4.mono HB3.out.size)); clear hB4 hT hw0)
        obtain ⟨hes, hix⟩ := Hes.out
        obtain ⟨m1, m2, m3⟩ := Hmk.out w4 HB4.out
        have hfl : ∀ x, x ∈ es → ¬ okB d x → r = ([], 14) := fun x hx hb => by
          rw [← Hr.out]; exact pLoad_bad (by rw [Hs.out.1]; exact Hs.out.2.1) hk0 (by rw [Hs.out.1, Hs.out.2.2]; exact hix) hx hb
        have hall : (∀ x ∈ es, okB d x) → r = (blobsB d es, 0) := fun hb => by
          rw [← Hr.out]; exact pLoad_all (by rw [Hs.out.1]; exact Hs.out.2.1) hk0 (by rw [Hs.out.1, Hs.out.2.2]; exact hix) hb
        have hw0m : w.heap.size < w0.heap.size := by
          have h1 := HT.out.2
          have h2 := HB3.out.size
          have h3 : (w.alloc (.map #[] 0)).heap.size = w.heap.size + 1 := by simp
          omega
        obtain ⟨n, hn⟩ : ∃ n, es.length = n := ⟨_, rfl⟩
        obtain ⟨mk, hmk⟩ : ∃ x, w.heap.size = x := ⟨_, rfl⟩
        have hat := fun j hj => HT.out.1.at j hj
        have Hat := Lib.hid hat
        have H4 := Lib.hid (And.intro m1 (And.intro m2 m3))
        have Hf := Lib.hid (And.intro hfl hall)
        have Hes2 := Lib.hid hes
        have Hn := Lib.hid hn
        have Hmk2 := Lib.hid hmk
        have HTs := Lib.hid HT.out.1.bel.size
        rw [hn]
        rw [hmk]
        clear hes hix m1 m2 m3 hfl hall hat hn Hes Hmk hmk HI hk0 hk0I
        go_loopw [13, 14, 15, 16, 48] (fun _ _ _ _ jv wr => ∃ (j : Nat) (S : Nat → Prop) (g : Value → Option Value), j ≤ n ∧ jv = .int .i64 j ∧ KeysAt wr mk S g (blobsB d (es.take j)) ∧ (∀ i, S i → mk < i ∧ i < wr.heap.size) ∧ Upd (· = mk) w4 wr ∧ ∀ x ∈ es.take j, okB d x) (fun _ _ _ _ jv _ => n - (intOf jv).toNat)
        case atStart => exact ⟨0, fun _ => False, fun _ => none, by omega, rfl, by rw [← Hmk2.out]; exact H4.out.2.2, fun _ h => h.elim, Upd.refl _ _, fun x hx => by simp at hx⟩
        case round =>
          obtain ⟨j, S, g, hj, rfl, hK, hS, hU, hok⟩ := hrel
          have hbr : Below w.heap.size w wr := H4.out.1.trans (hU.below (fun k hk => by rw [hk]; exact Nat.le_of_eq Hmk2.out) H4.out.1.size)
          have Hbr := Lib.hid hbr
          have HK := Lib.hid (And.intro hK (And.intro hS hU))
          have Hok := Lib.hid hok
          clear hK hS hU hok hbr
          by_cases hlt : j < n
          · have hjl : j < es.length := by rw [Hn.out]; exact hlt
            obtain ⟨g1, g2, g3, rfl, rfl, rfl, ⟨q1, q2, q3⟩, z1, z2, z3, z4, z5⟩ := Hat.out j hjl
            obtain ⟨x, hx⟩ : ∃ x, es[j] = x := ⟨_, rfl⟩
            rw [hx] at z1 z3 z4 z5
            have hxm : x ∈ es := by rw [← hx]; exact List.getElem_mem hjl
            obtain ⟨b0, b1, b2, b3, b4, b5, b6⟩ := Hes2.out.bnd x hxm
            have hgm : ∀ g', w0.heap.size ≤ g' → ∀ o v, w4.cell? ⟨g', o, none⟩ = some v → wr.cell? ⟨g', o, none⟩ = some v := fun g' hg o v hc => (HK.out.2.2.cell (cell_lt hc) (fun e => by have := Hmk2.out; omega) o).trans hc
            have y1 := hgm g1 q1 _ _ z1
            have y2 := hgm g2 q2 _ _ z2
            have y3 := hgm g2 q2 _ _ z3
            have y4 := hgm g2 q2 _ _ z4
            have y5 := hgm g3 q3 _ _ z5
            have hji : (j : Int) < (n : Int) := by omega
            have hj0 : (0 : Int) ≤ (j : Int) := by omega
            obtain ⟨w5, hw5⟩ : ∃ y, wr.alloc (.cells #[.slice none 0 0, .int .i64 x.pack, .int .i64 x.pos] 104) = y := ⟨_, rfl⟩
            have hb5 : w5.heap[wr.heap.size]? = some (.cells #[.slice none 0 0, .int .i64 x.pack, .int .i64 x.pos] 104 (0, 0)) := by rw [← hw5]; exact alloc_at _ _
            have hB5 : Below wr.heap.size wr w5 := by rw [← hw5]; exact (Below.refl _ _).alloc (Nat.le_refl _) _
            obtain ⟨bx, hbx⟩ : ∃ y, wr.heap.size = y := ⟨_, rfl⟩
            rw [hbx] at hb5
            have hF2 := pgfile_any w5 99 x.pack (by omega) (HEn.out.below (Hbr.out.trans (hB5.mono Hbr.out.size)))
            have hsz2 : (cName x.pack).size ≤ 17 := pgName_size b4
            obtain ⟨s2, hs2⟩ : ∃ s, cName x.pack = s := ⟨_, rfl⟩
            rw [show pgName 99 x.pack = s2 from hs2] at hF2
            rw [hs2] at hsz2
            obtain ⟨er2, her2⟩ : ∃ er, findErr d s2 = er := ⟨_, rfl⟩
            obtain ⟨bs2, hbs2⟩ : ∃ bs, d.readBytes s2 = bs := ⟨_, rfl⟩
            have hbl2 : bs2.length ≤ 16777216 := by rw [← hbs2]; exact readBytes_le H.out.wf s2
            have hR2 := fun w6 (hB : Below w5.heap.size w5 w6) => Read_at s2 ((H.out.below (Hbr.out.trans (hB5.mono Hbr.out.size))).below hB) (by simp only [maxLen]; omega)
            rw [her2, hbs2] at hR2
            have HF2 := Lib.hid hF2
            have HR2 := Lib.hid hR2
            have Hx := Lib.hid (And.intro hx (And.intro hxm (And.intro hs2 (And.intro her2 hbs2))))
            have H5 := Lib.hid (And.intro hb5 (And.intro hB5 hw5))
            have Hbx := Lib.hid hbx
            obtain ⟨v0, v1, v2, _⟩ := cells3 hb5
            clear hF2 hR2 hx hxm hs2 her2 hbs2 hb5 hB5 hw5 hgm z1 z2 z3 z4 z5 hbx
            go_upto_region 17 with fail
            rw [H5.out.2.2, Hbx.out]
            go_upto_region 18 with first
              | (go_at_call 52; refine HF2.out.mono ?_; rintro e w6 ⟨rfl, hB6⟩; have HB6 := Lib.hid hB6; clear hB6)
              | (go_at_call 26; refine (HR2.out w6 HB6.out).mono ?_; rintro e w7 ⟨a7, c7, rfl, hrow, hB7⟩; obtain ⟨_, _, hv7, hnc7, hcm7, _⟩ := row_slice (ownsRow_base0 hrow); cases hv7; have Hr7 := Lib.hid (And.intro hrow (And.intro hnc7 hcm7)); have HB7 := Lib.hid (And.intro hB7 (HB6.out.trans (hB7.mono HB6.out.size))); clear hrow hB7 hcm7)
            clear v0 v1 v2
            have hb7 : w7.heap[bx]? = some (.cells #[.slice none 0 0, .int .i64 x.pack, .int .i64 x.pos] 104 (0, 0)) := (HB7.out.2.block bx (blk_lt H5.out.1)).trans H5.out.1
            obtain ⟨v0, v1, v2, _⟩ := cells3 hb7
            have u5 : w7.cell? ⟨g3, j, none⟩ = some (.int .i64 x.long) := by
              have h1 := (H5.out.2.1.cell (p := ⟨g3, j, none⟩) (cell_lt y5)).trans y5
              exact (HB7.out.2.cell (p := ⟨g3, j, none⟩) (cell_lt h1)).trans h1
            have hw7 : Below w.heap.size w w7 := Hbr.out.trans ((H5.out.2.1.trans (HB7.out.2.mono H5.out.2.1.size)).mono Hbr.out.size)
            have Hw7 := Lib.hid hw7
            have Hb7 := Lib.hid hb7
            clear hb7 hw7
            by_cases he2 : er2 = 0
            · have he2b : (er2 != 0) = false := by simp [he2]
              by_cases hp : bs2.length < x.pos
              · have hpI : (bs2.length : Int) < (x.pos : Int) := by omega
                have Hb := Lib.hid (Hf.out.1 x Hx.out.2.1 (fun h => by have h2 := h.2; rw [Hx.out.2.2.1, Hx.out.2.2.2.2] at h2; omega))
                clear he2 hp
                go_wp2_with fail
                go_quiet (fail)
                go_wp2_with fail
                go_ret2
                exact LoadPost.bad Hb.out (by decide) (below_drewN Hw7.out _)
              · have hpI : ¬ (bs2.length : Int) < (x.pos : Int) := by omega
                have hpd : decide (bs2.length < x.pos) = false := decide_eq_false hp
                have hsubw : IntKind.i64.wrap ((bs2.length : Int) - (x.pos : Int)) = (bs2.length : Int) - (x.pos : Int) := IntWalk.i64_in _ (by omega)
                by_cases hl : bs2.length < x.pos + x.long
                · have hlI : (bs2.length : Int) - (x.pos : Int) < (x.long : Int) := by omega
                  have Hb := Lib.hid (Hf.out.1 x Hx.out.2.1 (fun h => by have h2 := h.2; rw [Hx.out.2.2.1, Hx.out.2.2.2.2] at h2; omega))
                  clear he2 hl
                  go_wp2_with fail
                  go_quiet (fail)
                  go_wp2_with fail
                  go_ret2
                  exact LoadPost.bad Hb.out (by decide) (below_drewN Hw7.out _)
                · have hlI : ¬ (bs2.length : Int) - (x.pos : Int) < (x.long : Int) := by omega
                  have hld : decide ((bs2.length : Int) - (x.pos : Int) < (x.long : Int)) = false := decide_eq_false hlI
                  have hokx : okB d x := ⟨by rw [Hx.out.2.2.1, Hx.out.2.2.2.1, he2], by rw [Hx.out.2.2.1, Hx.out.2.2.2.2]; omega⟩
                  have Hokx := Lib.hid hokx
                  have hsum : x.pos + x.long ≤ bs2.length := by omega
                  clear he2 hl hokx
                  go_wp2_with fail
                  go_quiet (fail)
                  go_upto_region 20 with fail
                  have hB8 : Below w7.heap.size w7 (w7.drewN nq) := below_drewN (Below.refl _ _) _
                  obtain ⟨w8, hw8⟩ : ∃ y, w7.drewN nq = y := ⟨_, rfl⟩
                  rw [hw8] at hB8 ⊢
                  have hb8 : w8.heap[bx]? = some (.cells #[.slice none 0 0, .int .i64 x.pack, .int .i64 x.pos] 104 (0, 0)) := (hB8.block bx (blk_lt Hb7.out)).trans Hb7.out
                  have u8 := (hB8.cell (p := ⟨g3, j, none⟩) (cell_lt u5)).trans u5
                  have u8d : w8.drew.cell? ⟨g3, j, none⟩ = some (.int .i64 x.long) := u8
                  have hrd8 : Rd w8 (.slice a7 bs2.length c7) (bcells bs2) := (Rd.ofOwns Hr7.out.1).below hB8
                  have H8 := Lib.hid (And.intro hB8 (And.intro hb8 hrd8))
                  clear hw8 v0 v1 v2 u5 hB8
                  obtain ⟨v0, v1, v2, f0, f1, f2⟩ := cells3 hb8
                  obtain ⟨v0d, v1d, v2d, f0d, f1d, f2d⟩ := cells3 (w := w8.drew) hb8
                  obtain ⟨aD, haD⟩ : ∃ y, (if c7 = x.pos then a7 else Option.map (fun y => y.add x.pos) a7) = y := ⟨_, rfl⟩
                  have hnc7 := Hr7.out.2.1
                  have hcm7 := Hr7.out.2.2
                  simp only [maxLen] at hcm7
                  have hsumI : (x.pos : Int) + (x.long : Int) ≤ (c7 : Int) := by omega
                  have hsumw : IntKind.i64.wrap ((x.pos : Int) + (x.long : Int)) = (x.pos : Int) + (x.long : Int) := IntWalk.i64_in _ (by omega)
                  have hple : (x.pos : Int) ≤ (x.pos : Int) + (x.long : Int) := by omega
                  clear hb8 hrd8
                  go_region
                  have hs5 : wr.heap.size ≤ w5.heap.size := H5.out.2.1.size
                  have hbxe := Hbx.out
                  have h58 : Below wr.heap.size wr w8 := (H5.out.2.1.trans (HB7.out.2.mono hs5)).trans (H8.out.1.mono (Nat.le_trans hs5 HB7.out.2.size))
                  obtain ⟨w9, hw9⟩ : ∃ y, (w8.setCell ⟨bx, 0, none⟩ (.slice aD x.long (c7 - x.pos))).drew = y := ⟨_, rfl⟩
                  have hb9 : w9.heap[bx]? = some (.cells #[.slice aD x.long (c7 - x.pos), .int .i64 x.pack, .int .i64 x.pos] 104 (0, 0)) := by rw [← hw9]; exact setCell_at H8.out.2.1 0 _
                  have hU9 : Upd (· = bx) w8 w9 := by rw [← hw9]; exact (setCell_upd 0 _).drew
                  rw [hw9]
                  have hB9 : Below wr.heap.size wr w9 := h58.trans (hU9.below (fun q hq => by rw [hq]; exact Nat.le_of_eq hbxe) h58.size)
                  have hvb8 : Rd w8 (.slice aD x.long (c7 - x.pos)) (bcells (blobB d x).b) := by
                    have h1 := rd_sub5 H8.out.2.2 hnc7 x.pos x.long hsum
                    rw [haD] at h1
                    unfold blobB
                    rw [Hx.out.2.2.1, Hx.out.2.2.2.2]
                    unfold bcells at h1 ⊢
                    rw [List.map_take, List.map_drop]
                    exact h1
                  have hown : ∀ q, (Value.slice aD x.long (c7 - x.pos)).ownBlock = some q → w6.heap.size ≤ q ∧ q < w7.heap.size := fun q hq => by
                    refine Hr7.out.1.lt q ?_
                    rw [← haD] at hq
                    split at hq
                    · exact own_any5 hq
                    · exact own_add5 hq
                  have h56 : w5.heap.size ≤ w6.heap.size := HB6.out.size
                  have hb5l : bx < w5.heap.size := blk_lt H5.out.1
                  have hmkr : mk < wr.heap.size := HK.out.1.map.lt
                  have hvb9 : Rd w9 (.slice aD x.long (c7 - x.pos)) (bcells (blobB d x).b) := hvb8.keep hU9 (fun q hq e => by have := (hown q hq).1; omega)
                  have hK9 := HK.out.1.upd (Upd.ofBelow (fp := noFp) hB9) (fun h => h) (fun _ _ h => h)
                  have y1n : w9.cell? ⟨g1, j, none⟩ = some (.string x.name) := (hB9.cell (p := ⟨g1, j, none⟩) (cell_lt y1)).trans y1
                  have hky := key_of (s := x.name) (by simp only [maxLen]; omega)
                  have hjl4 : j < 4096 := by have := Hes2.out.len; omega
                  have hlenj : (blobsB d (es.take j)).length = j := by unfold blobsB; rw [List.length_map, List.length_take]; omega
                  have hkn : kB (blobsB d (es.take j)) x.name = none := by
                    have := kB_take_none (d := d) Hes2.out hjl
                    rw [Hx.out.1] at this
                    exact this
                  obtain ⟨_, _, _, _, _, _, hiso, _⟩ := hK9.look x.name
                  rw [hkn] at hiso
                  have hm9 := hK9.map
                  obtain ⟨w10, hrun, hm10, hg10, hs10⟩ := (show MapIs Tryz.prog 9 w9.drew mk (blobsB d (es.take j)).length g from hm9).run_update keyed Tryz.underlying56 hky (val := .agg #[.slice aD x.long (c7 - x.pos), .int .i64 x.pack, .int .i64 x.pos]) (by rw [hlenj]; simp only [maxLen]; omega)
                  have hU10 : Upd (· = mk) w9 w10 := (Upd.refl _ w9).drew.trans ((Upd.refl (· = mk) _).grown hg10 (fun j hj => by cases hj; exact Or.inl rfl)) (fun _ h => Or.inl h)
                  have hsucc := take_succ_B (d := d) Hes2.out hjl
                  rw [Hx.out.1] at hsucc
                  have hlp : (putB (blobsB d (es.take j)) x.name (blobB d x)).length = (blobsB d (es.take j)).length + 1 := by
                    rw [← hsucc, hlenj]; unfold blobsB; rw [List.length_map, List.length_take]; omega
                  have hst := hK9.stored x.name (blobB d x) (.slice aD x.long (c7 - x.pos)) (by
                    rw [hlp]
                    rw [show (g (.string x.name)).isSome = false from hiso] at hm10
                    exact hm10) hU10 (fun q hq => by have := (HK.out.2.1 q hq).1; omega) (hvb9.keep hU10 (fun q hq e => by have := (hown q hq).1; omega))
                  rw [← hsucc] at hst
                  have hS10 : ∀ q, (S q ∨ (Value.slice aD x.long (c7 - x.pos)).ownBlock = some q) → mk < q ∧ q < w10.heap.size := fun q hq => by
                    have h9 := hB9.size
                    have h10 := hU10.size
                    have h7 := hU9.size
                    have h8 := H8.out.1.size
                    rcases hq with hq | hq
                    · have := HK.out.2.1 q hq; omega
                    · have := hown q hq; omega
                  have hU410 : Upd (· = mk) w4 w10 := (HK.out.2.2.thenBelow hB9 HK.out.2.2.size).trans hU10 (fun _ h => Or.inl h)
                  have hok10 : ∀ z ∈ es.take (j + 1), okB d z := fun z hz => by
                    rw [List.take_succ_eq_append_getElem hjl, List.mem_append, Hx.out.1] at hz
                    rcases hz with hz | hz
                    · exact Hok.out z hz
                    · rw [List.mem_singleton.1 hz]; exact Hokx.out
                  have HN := Lib.hid (And.intro hst (And.intro hS10 (And.intro hU410 hok10)))
                  obtain ⟨s0, s1, s2', _⟩ := cells3 hb9
                  obtain ⟨s0d, s1d, s2d, _⟩ := cells3 (w := w9.drew) hb9
                  have y1d : w9.drew.cell? ⟨g1, j, none⟩ = some (.string x.name) := y1n
                  clear v0 v1 v2 f0 f1 f2 v0d v1d v2d f0d f1d f2d haD hw9 hvb8 hvb9 hown hK9 hm9 hiso hkn hlp hst hS10 hU410 hok10 hsucc hm10 hg10 hU10 hU9 hB9 h58 hb9 u8 u8d hlenj hs10
                  go_wp2_with fail
                  go_region
                  go_wp2_with fail
                  go_roundw
                  case rel => exact ⟨j + 1, _, _, by omega, by go_num, HN.out.1, HN.out.2.1, HN.out.2.2.1, HN.out.2.2.2⟩
                  case measure => simp [intOf]; omega
            · have he2b : (er2 != 0) = true := by simpa using he2
              have Hb := Lib.hid (Hf.out.1 x Hx.out.2.1 (fun h => by have h1 := h.1; rw [Hx.out.2.2.1, Hx.out.2.2.2.1] at h1; exact he2 h1))
              clear he2
              go_wp2_with fail
              go_quiet (fail)
              go_wp2_with fail
              go_ret2
              exact LoadPost.bad Hb.out (by decide) (below_drewN Hw7.out _)
          · obtain rfl : j = n := by omega
            have hji : ¬ (j : Int) < (j : Int) := by omega
            clear hlt
            have htk : es.take j = es := List.take_of_length_le (by rw [Hn.out]; exact Nat.le_refl _)
            obtain ⟨hK, hS, hU⟩ := HK.out
            have hok := Hok.out
            rw [htk] at hK hok
            have Hg := Lib.hid (Hf.out.2 hok)
            have HK2 := Lib.hid (And.intro hK hS)
            have hmw : w.heap.size ≤ mk ∧ mk < wr.heap.size := ⟨Nat.le_of_eq Hmk2.out, hK.map.lt⟩
            clear hK hS hU hok htk HK
            go_wp2_with fail
            go_ret2
            exact LoadPost.good Hg.out Hbr.out hmw HK2.out.1 HK2.out.2
  · have h0b : (er != 0) = true := by simpa using h0
    have hlo := pLoad_err (d := d) (k := k) (by rw [Hs.out.1, Hs.out.2.1]; exact h0)
    rw [Hs.out.1, Hs.out.2.1, Hr.out] at hlo
    by_cases h13 : er = 13
    · subst h13
      rw [if_pos rfl] at hlo
      by_cases hk0 : k = 0
      · subst hk0
        rw [if_pos rfl] at hlo
        have Hg := Lib.hid hlo
        clear hlo h0 h0b
        go_enter Tryz.func60, Tryz.ntmps60
        go_wp2_with first
          | (go_at_call 52; refine HF.out.mono ?_; rintro e w2 ⟨rfl, hB2⟩; have HB2 := Lib.hid hB2; clear hB2)
          | (go_at_call 26; refine (HR.out w2 (Hmk.out w2 HB2.out).1).mono ?_; rintro e w3 ⟨a, c, rfl, hrow, hB3⟩; have HB3 := Lib.hid (HB2.out.trans (hB3.mono HB2.out.size)); clear hrow hB3)
        go_ret2
        obtain ⟨m1, m2, m3⟩ := Hmk.out w3 HB3.out
        exact LoadPost.good Hg.out m1 m2 m3 (fun _ h => h.elim)
      · rw [if_neg hk0] at hlo
        have hk0I : ((k : Int) == 0) = false := by simpa using (fun e => hk0 (by omega) : ¬ (k : Int) = 0)
        have Hg := Lib.hid hlo
        clear hlo h0 h0b hk0
        go_enter Tryz.func60, Tryz.ntmps60
        go_wp2_with first
          | (go_at_call 52; refine HF.out.mono ?_; rintro e w2 ⟨rfl, hB2⟩; have HB2 := Lib.hid hB2; clear hB2)
          | (go_at_call 26; refine (HR.out w2 (Hmk.out w2 HB2.out).1).mono ?_; rintro e w3 ⟨a, c, rfl, hrow, hB3⟩; have HB3 := Lib.hid (HB2.out.trans (hB3.mono HB2.out.size)); clear hrow hB3)
        go_ret2
        exact LoadPost.bad Hg.out (by decide) (Hmk.out w3 HB3.out).1
    · rw [if_neg h13] at hlo
      have h13b : (er == 13) = false := by simpa using h13
      have Hg := Lib.hid (And.intro hlo h0)
      clear hlo h0 h13
      go_enter Tryz.func60, Tryz.ntmps60
      go_wp2_with first
        | (go_at_call 52; refine HF.out.mono ?_; rintro e w2 ⟨rfl, hB2⟩; have HB2 := Lib.hid hB2; clear hB2)
        | (go_at_call 26; refine (HR.out w2 (Hmk.out w2 HB2.out).1).mono ?_; rintro e w3 ⟨a, c, rfl, hrow, hB3⟩; have HB3 := Lib.hid (HB2.out.trans (hB3.mono HB2.out.size)); clear hrow hB3)
      go_ret2
      exact LoadPost.bad Hg.out.1 Hg.out.2 (Hmk.out w3 HB3.out).1
end
end Go.Proofs.YtbepcjajbcecnaaGreatDoor

/-
  Open, of any commit upon any disk.
-/
namespace Go.Proofs.YtbepcjajbcecnaaGreatDoor
open Go.RowKit Go.Maps Go.MapKept
set_option linter.unusedSimpArgs false

/-- what is known of keys that were loaded. -/
theorem pLoad_keys {d : ADisk} {k : Nat} (hk : k ≤ 9007199254740992) : SortedB (pLoad d k).1 ∧ (pLoad d k).1.length ≤ 4096 ∧ ∀ p ∈ (pLoad d k).1, p.2.pack ≤ 9007199254740992 ∧ p.2.pack ≤ k := by
  have nil : SortedB [] ∧ ([] : List (ByteArray × ABlob)).length ≤ 4096 ∧ ∀ p ∈ ([] : List (ByteArray × ABlob)), p.2.pack ≤ 9007199254740992 ∧ p.2.pack ≤ k := ⟨List.Pairwise.nil, by simp, fun p hp => (by cases hp)⟩
  by_cases h0 : findErr d (iName k) = 0
  · by_cases hk0 : k = 0
    · subst hk0; rw [pLoad_zero h0]; exact nil
    · cases hi : pIndex (d.readBytes (iName k)) k with
      | none => rw [pLoad_none h0 hk0 hi]; exact nil
      | some es =>
        have hes := pIndex_ents hi
        by_cases hall : ∀ x ∈ es, okB d x
        · rw [pLoad_all h0 hk0 hi hall]
          refine ⟨hes.sorted d, by unfold blobsB; rw [List.length_map]; exact hes.len, fun p hp => ?_⟩
          obtain ⟨x, hx, rfl⟩ := List.mem_map.1 hp
          exact ⟨(hes.bnd x hx).pg, (hes.bnd x hx).p1⟩
        · obtain ⟨x, hx⟩ := Classical.not_forall.1 hall
          obtain ⟨hx1, hx2⟩ := Classical.not_imp.1 hx
          rw [pLoad_bad h0 hk0 hi hx1 hx2]; exact nil
  · rw [pLoad_err h0]; exact nil
def OpenPost (ex : Nat → Prop) (w : World) (p m : Nat) (r : ADisk × AStore × Int) (e : Ending) (w' : World) : Prop :=
  if r.2.2 = 0 then ∃ q, e = .returned (.tuple #[.pointer (some ⟨q, 0, none⟩), .int .i64 0]) ∧ StoreAt ex w' q p m r.1 r.2.1 ∧ Keep ex w w' ∧ w.heap.size ≤ q
  else e = .returned (.tuple #[.pointer none, .int .i64 r.2.2]) ∧ DiskAt ex w' p m r.1 ∧ Keep ex w w'
section
variable {ex : Nat → Prop} {w : World} {p m : Nat} {d : ADisk}
set_option maxRecDepth 100000 in
set_option maxHeartbeats 8000000 in
theorem pgOpen_at (h : DiskAt ex w p m d) (hE : WEnv w) (hG : GlIn ex) (k : Int) (hki : isI64 k) :
    Calls Tryz.prog 16 #[.pointer (some ⟨p, 0, none⟩), .int .i64 k] w (OpenPost ex w p m (pOpen d k)) := by
  have hlt : ∀ k, ex k → k < w.heap.size := fun k hk => h.lt hk
  by_cases hbad : k < 0 ∨ 9007199254740992 < k
  · have hP : pOpen d k = (d, ⟨0, [], [], false⟩, 2) := by unfold pOpen; rw [if_pos hbad]
    rw [hP]
    have H := Lib.hid h
    have hI : k < 0 ∨ (¬ k < 0 ∧ 9007199254740992 < k) := by omega
    clear hP hbad h hE hki
    rcases hI with hI | ⟨hI, hI2⟩
    all_goals
      go_enter Tryz.func16, Tryz.ntmps16
      go_wp2
      go_ret2
      exact ⟨rfl, H.out, Keep.refl _ _⟩
  · obtain ⟨kn, rfl⟩ : ∃ n : Nat, k = n := ⟨k.toNat, by omega⟩
    have hk : kn ≤ 9007199254740992 := by omega
    have hk0I : ¬ (kn : Int) < 0 := by omega
    have hkgI : ¬ (9007199254740992 : Int) < (kn : Int) := by omega
    have hL := pgload_at h hE kn hk
    have hfac := pLoad_keys (d := d) hk
    have hPO : pOpen d (kn : Int) = if (pLoad d kn).2 ≠ 0 then (d, ⟨0, [], [], false⟩, (pLoad d kn).2) else if (pFree d kn (packsOf (pLoad d kn).1)).2.2 ≠ 0 then ((pFree d kn (packsOf (pLoad d kn).1)).1, ⟨0, [], [], false⟩, (pFree d kn (packsOf (pLoad d kn).1)).2.2) else ((pFree d kn (packsOf (pLoad d kn).1)).1, ⟨kn, (pLoad d kn).1, packsOf (pLoad d kn).1, false⟩, 0) := by
      unfold pOpen
      rw [if_neg hbad, Int.toNat_natCast]
    rw [hPO]
    obtain ⟨l, er, hle⟩ : ∃ l er, pLoad d kn = (l, er) := ⟨_, _, rfl⟩
    rw [hle] at hL hfac ⊢
    simp only at hfac ⊢
    unfold LoadPost at hL
    simp only at hL
    clear hPO hbad hki hle
    by_cases h0 : er = 0
    · subst h0
      rw [if_neg (by simp)]
      simp only [if_true] at hL
      obtain ⟨hso, hl4, hpk⟩ := hfac
      obtain ⟨dF, ns, fe, hfr⟩ : ∃ dF ns fe, pFree d kn (packsOf l) = (dF, ns, fe) := ⟨_, _, _, rfl⟩
      rw [hfr]
      simp only
      have HL := Lib.hid hL
      have H := Lib.hid h
      have HEn := Lib.hid hE
      have Hfac := Lib.hid (And.intro hso (And.intro hl4 (And.intro (fun p hp => (hpk p hp).1) hfr)))
      clear hL h hE hso hl4 hpk hfr
      go_enter Tryz.func16, Tryz.ntmps16
      go_upto_region 7 with first
        | (go_at_call 60; refine HL.out.mono ?_; rintro e w1 ⟨hB1, mk, S, g, rfl, hmk, hK, hS⟩; have HK := Lib.hid (And.intro hK (And.intro hS hB1)); clear hK hS hB1)
      have hB1 := HK.out.2.2
      have hb2 := alloc_at w1 (.cells #[.pointer (some ⟨p, 0, none⟩), .int .i64 kn, .map (some mk), .map none, .bool false] 59)
      have hB2 : Below w1.heap.size w1 (w1.alloc (.cells #[.pointer (some ⟨p, 0, none⟩), .int .i64 kn, .map (some mk), .map none, .bool false] 59)) := (Below.refl _ _).alloc (Nat.le_refl _) _
      have hs2 : (w1.alloc (.cells #[.pointer (some ⟨p, 0, none⟩), .int .i64 kn, .map (some mk), .map none, .bool false] 59)).heap.size = w1.heap.size + 1 := by simp
      obtain ⟨q, hq⟩ : ∃ q, w1.heap.size = q := ⟨_, rfl⟩
      obtain ⟨w2, hw2⟩ : ∃ x, w1.alloc (.cells #[.pointer (some ⟨p, 0, none⟩), .int .i64 kn, .map (some mk), .map none, .bool false] 59) = x := ⟨_, rfl⟩
      rw [hw2] at hb2 hB2 hs2 ⊢
      rw [hq] at hb2 hs2 ⊢
      have hk2 : KeysAt w2 mk S g l := HK.out.1.upd (Upd.ofBelow (fp := noFp) hB2) (fun h => h) (fun _ _ h => h)
      have hP := pgpacks_any w2 q mk S g l (cells5 hb2).2.2.1 hk2 Hfac.out.1 Hfac.out.2.2.1 Hfac.out.2.1
      obtain ⟨c0, c1, c2, c3, c4, z1, z2, z3, z4⟩ := cells5 hb2
      have hw1 := hB1.size
      have hnew : ∀ (w3 : World) (mh : Nat), w2.heap.size ≤ mh → mh < w3.heap.size → HeldAt w3 mh (packsOf l) → Below w2.heap.size w2 w3 → StoreAt ex (w3.setCell ⟨q, 3, none⟩ (.map (some mh))) q p m d ⟨kn, l, packsOf l, false⟩ ∧ Keep ex w (w3.setCell ⟨q, 3, none⟩ (.map (some mh))) ∧ w3.cell? ⟨q, 3, none⟩ = some (.map none) ∧ w3.frozen? ⟨q, 3, none⟩ = false := by
        intro w3 mh h1 h2 hH hB3
        have hb3 := (hB3.block q (blk_lt hb2)).trans hb2
        have hb4 := setCell_at hb3 3 (.map (some mh))
        have hU : Upd (· = q) w3 (w3.setCell ⟨q, 3, none⟩ (.map (some mh))) := setCell_upd 3 _
        have hBw3 : Below w.heap.size w w3 := (hB1.trans (hB2.mono hw1)).trans (hB3.mono (by omega))
        have hSq : ∀ k, S k → mk < k ∧ k < q := fun k hk => by have := HK.out.2.1 k hk; omega
        have hs3 := hB3.size
        have hDx : DiskAt (fun k => ex k ∨ k = q ∨ k = mk ∨ k = mh ∨ S k) w3 p m d := H.out.more hBw3 (fun k hk => by
          rcases hk with hk | hk | hk | hk | hk
          · exact Or.inl hk
          · exact Or.inr ⟨by omega, by omega⟩
          · exact Or.inr ⟨by omega, by omega⟩
          · exact Or.inr ⟨by omega, by omega⟩
          · exact Or.inr ⟨by have := hSq k hk; omega, by have := hSq k hk; omega⟩)
        refine ⟨⟨mk, mh, S, g, ⟨hb4, (hk2.upd (Upd.ofBelow (fp := noFp) hB3) (fun h => h) (fun _ _ h => h)).upd hU (fun e => by omega) (fun k hk e => by have := hSq k hk; omega), hH.upd hU (fun e => by omega), hDx.upd hU (fun k _ hk => Or.inr (Or.inl hk)), ⟨fun e => by have := hlt _ e; omega, fun e => by have := hlt _ e; omega, fun e => by have := hlt _ e; omega⟩, fun k hk => ⟨fun e => by have := hlt _ e; have := hSq k hk; omega, by have := hSq k hk; omega, by have := hSq k hk; omega, by have := hSq k hk; omega⟩, ⟨by omega, by omega, by omega⟩⟩⟩, (Keep.ofBelow hBw3 hlt).trans (Keep.ofUpd hU (fun k hk => ⟨by have := hlt k hk; omega, fun e => by have := hlt k hk; omega⟩)), (cells5 hb3).2.2.2.1, (cells5 hb3).2.2.2.2.2.2.2.1⟩
      have HP := Lib.hid hP
      have HN := Lib.hid hnew
      have hqw : w.heap.size ≤ q := by omega
      clear hP hnew hb2 hB2 hs2 hk2 hw2 hq hB1 hmk hw1
      by_cases hf0 : fe = 0
      · subst hf0
        rw [if_neg (by simp)]
        go_wp2_with first
          | (go_at_call 48; refine HP.out.mono ?_; rintro e w3 ⟨mh, rfl, hmh1, hmh2, hH, hB3⟩; obtain ⟨n1, n2, n3, n4⟩ := HN.out w3 mh hmh1 hmh2 hH hB3; have hfr := pgfree_at n1 (HEn.out.keep n2 hG) hG; rw [Hfac.out.2.2.2] at hfr; have Hfr := Lib.hid (And.intro hfr n2); clear hfr n1 n2 hH hB3)
          | (go_at_call 61; refine Hfr.out.1.mono ?_; rintro e w5 ⟨a, c, rfl, hrow, hS5, hK5⟩; have HS := Lib.hid (And.intro hS5 hK5); clear hS5 hK5 hrow)
        go_ret2
        exact ⟨q, rfl, HS.out.1.mono (fun k hk => Or.inl hk), Hfr.out.2.trans HS.out.2, hqw⟩
      · rw [if_pos hf0]
        have hfb : (fe != 0) = true := by simpa using hf0
        have Hf0 := Lib.hid hf0
        clear hf0
        go_wp2_with first
          | (go_at_call 48; refine HP.out.mono ?_; rintro e w3 ⟨mh, rfl, hmh1, hmh2, hH, hB3⟩; obtain ⟨n1, n2, n3, n4⟩ := HN.out w3 mh hmh1 hmh2 hH hB3; have hfr := pgfree_at n1 (HEn.out.keep n2 hG) hG; rw [Hfac.out.2.2.2] at hfr; have Hfr := Lib.hid (And.intro hfr n2); clear hfr n1 n2 hH hB3)
          | (go_at_call 61; refine Hfr.out.1.mono ?_; rintro e w5 ⟨a, c, rfl, hrow, hS5, hK5⟩; have HS := Lib.hid (And.intro hS5 hK5); clear hS5 hK5 hrow)
        go_ret2
        unfold OpenPost
        rw [if_neg Hf0.out]
        exact ⟨rfl, (HS.out.1.mono (fun k hk => Or.inl hk)).disk, Hfr.out.2.trans HS.out.2⟩
    · rw [if_pos h0]
      simp only [if_neg h0] at hL
      have h0b : (er != 0) = true := by simpa using h0
      have HL := Lib.hid hL
      have H := Lib.hid h
      have H0 := Lib.hid h0
      clear hL h hE h0 hfac
      go_enter Tryz.func16, Tryz.ntmps16
      go_wp2_with first
        | (go_at_call 60; refine HL.out.mono ?_; rintro e w1 ⟨hB1, rfl⟩; have HB1 := Lib.hid hB1; clear hB1)
      go_ret2
      unfold OpenPost
      rw [if_neg H0.out]
      exact ⟨rfl, H.out.below HB1.out, Keep.ofBelow HB1.out hlt⟩
end
end Go.Proofs.YtbepcjajbcecnaaGreatDoor
