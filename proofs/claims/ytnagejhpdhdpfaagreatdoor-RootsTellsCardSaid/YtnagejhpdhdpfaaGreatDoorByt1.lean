/-
  Package bytes: Blob; package slices: Clone, Equal, IndexFunc at bytes.
-/
import Derived.Outline
import Derived.BigQuiet
import Derived.Deep.RegionHeld3
import Derived.Laws.Cover3
import Derived.Test.YtnagejhpdhdpfaaGreatDoorDisk9
import Derived.Test.YtnagejhpdhdpfaaGreatDoorByt0
namespace Go.Proofs.YtnagejhpdhdpfaaGreatDoor
open Go.RowKit Go.Maps Go.MapKept

theorem below_drewN {N : Nat} {w0 w : World} (h : Below N w0 w) (n : Nat) : Below N w0 (w.drewN n) := ⟨h.os, h.tape, h.output, h.size, h.block⟩

set_option maxRecDepth 100000 in
set_option maxHeartbeats 2000000 in
theorem bBlob_any (w : World) (v vb : Value) (l b : List UInt8) (hown : Src w v l) (hrd : Rd w vb (bcells b)) (hap : ∀ w', Upd (fun k => v.ownBlock = some k) w w' → Rd w' vb (bcells b)) (hl : l.length ≤ 1099511627776) (hb : b.length ≤ 1099511627776) :
    Calls Tryz.prog 39 #[v, vb] w fun e w' => ∃ a c, e = .returned (.slice a (l ++ (vint b.length ++ b)).length c) ∧ Grew w v (l ++ (vint b.length ++ b)) (.slice a (l ++ (vint b.length ++ b)).length c) w' := by
  obtain ⟨a, c, rfl, hnc, hcm⟩ := hown.shape
  obtain ⟨ab, cb, rfl⟩ := hrd.shape
  rw [bcells_length] at hrd hap ⊢
  obtain ⟨r, hr⟩ : ∃ r, l ++ (vint b.length ++ b) = r := ⟨_, rfl⟩
  obtain ⟨r1, hr1⟩ : ∃ r1, l ++ vint b.length = r1 := ⟨_, rfl⟩
  have hr2 : r1 ++ b = r := by rw [← hr1, ← hr, List.append_assoc]
  have hl1 : r1.length ≤ 1099511627786 := by
    rw [← hr1, List.length_append]
    have : (vint b.length).length ≤ 10 := vint_len (by omega) (Nat.lt_of_le_of_lt hb (by decide))
    omega
  have hU := bUint_any w (.slice a l.length c) l b.length hown (by omega) hl
  rw [hr1] at hU
  rw [hr]
  have Hr2 := Lib.hid hr2
  have Hap := Lib.hid hap
  clear hown hr hr1 hr2 hrd hap
  go_enter Tryz.func39, Tryz.ntmps39
  go_wp2_with first
    | (go_at_call 37; refine hU.mono ?_; rintro e w1 ⟨a1, c1, rfl, hG⟩)
    | (at_builtin; refine append_u8 rfl (.tmp 9) (.tmp 10) rfl (.slice a1 r1.length c1) (.slice ab b.length cb) r1 b r Hr2.out rfl hG.row rfl (Hap.out _ hG.upd) (by omega) ?_; intro v' w2 h1 h2 h3 h4; obtain ⟨a', c', rfl, _, _, _⟩ := row_slice h1)
  go_ret
  refine ⟨a', c', rfl, h1, hG.upd.grown h2 (fun k hk => ?_), ?_⟩
  · rcases hG.blk with hk1 | ⟨g, hk1, hg⟩
    · exact Or.inl (hk1 ▸ hk)
    · rw [hk1] at hk; cases hk; exact Or.inr hg
  · rcases h3 with h3 | ⟨g, h3, hg⟩
    · rw [h3]; exact hG.blk
    · exact Or.inr ⟨g, h3, Nat.le_trans hG.upd.size hg⟩

theorem run_eql_slice_nil {P : Program} {t e : TypeId} (h : P.underlying t = some (.slice e)) (a : Option Addr) (l c : Nat) (w : World) : (binOp .eql t (.slice a l c) (.slice none 0 0)).run P w = .ok (.bool a.isNone) w := by
  simp only [binOp]
  simp [run_equal_slice_nil w t e a l c h]
theorem row_empty (w : World) (e T : TypeId) (hT : T = e) : (w.alloc (.cells #[] T)).ownsRow w.heap.size e 1 (.slice (some ⟨w.heap.size, 0, none⟩) 0 0) 0 [] := by
  subst hT
  exact ⟨by simp, .inr ⟨w.heap.size, 0, #[], rfl, Nat.le_refl _, alloc_at _ _, Nat.le_refl _, by simp, by simp, by simp⟩⟩
set_option maxRecDepth 100000 in
set_option maxHeartbeats 2000000 in
theorem slClone_any (w : World) (v : Value) (l : List UInt8) (hrd : Rd w v (bcells l)) (hl : l.length ≤ 140737488355328) :
    Calls Tryz.prog 83 #[v] w fun e w' => ∃ a c, e = .returned (.slice a l.length c) ∧ w'.ownsRow w.heap.size 5 1 (.slice a l.length c) l.length (bcells l) ∧ Below w.heap.size w w' := by
  obtain ⟨a, c, rfl⟩ := hrd.shape
  rw [bcells_length] at hrd ⊢
  cases a with
  | none =>
    have hl0 : l = [] := by
      rcases hrd with ⟨h | ⟨_, _, h⟩, h0⟩ | ⟨_, _, _, _, h, _⟩
      · simpa [bcells] using h0
      · cases h
      · cases h
    subst hl0
    clear hrd
    have hq := run_eql_slice_nil (P := Tryz.prog) Tryz.underlying22 none 0 c
    go_enter Tryz.func83, Tryz.ntmps83
    go_wp2
    go_ret
    exact ⟨none, 0, rfl, World.ownsRow_nil _ _ _ _, Below.refl _ _⟩
  | some ad =>
    have Hrd := Lib.hid hrd
    clear hrd
    go_enter Tryz.func83, Tryz.ntmps83
    have hq := run_eql_slice_nil (P := Tryz.prog) Tryz.underlying22 (some ad) l.length c
    go_wp2_with (at_builtin; refine append_u8 rfl (.tmp 5) (.tmp 6) rfl (.slice (some ⟨w.heap.size, 0, none⟩) 0 0) (.slice (some ad) l.length c) [] l l rfl rfl (ownsRow_base0 (row_empty w 5 5 rfl)) rfl (Hrd.out.below ((Below.refl _ _).alloc (Nat.le_refl _) _)) (by simp; omega) ?_; intro v' w1 h1 h2 h3 _; obtain ⟨a', c', rfl, _, _, _⟩ := row_slice h1)
    go_ret
    have hB : Below w.heap.size w w1 := (((Upd.refl noFp w).alloc _).grown h2 (fun k hk => Or.inr (by cases hk; exact Nat.le_refl _))).below (fun _ h => h.elim) (Nat.le_refl _)
    refine ⟨a', c', rfl, ownsRow_from h1 (fun g hg => ?_), hB⟩
    rcases h3 with h3 | ⟨g', h3, hg'⟩
    · rw [h3] at hg; cases hg; exact Nat.le_refl _
    · rw [h3] at hg; cases hg; simp at hg'; omega

set_option maxRecDepth 100000 in
set_option maxHeartbeats 2000000 in
theorem slEqual_any (w : World) (v u : Value) (l m : List UInt8) (hv : Rd w v (bcells l)) (hu : Rd w u (bcells m)) (hl : l.length ≤ 140737488355328) :
    Calls Tryz.prog 82 #[v, u] w fun e w' => e = .returned (.bool (decide (l = m))) ∧ Below w.heap.size w w' := by
  obtain ⟨a, c, rfl⟩ := hv.shape
  obtain ⟨a2, c2, rfl⟩ := hu.shape
  rw [bcells_length] at hv hu ⊢
  rw [bcells_length]
  have Hv := Lib.hid hv
  have Hu := Lib.hid hu
  clear hv hu
  by_cases hlen : l.length = m.length
  · have hle : m.length = l.length := hlen.symm
    obtain ⟨n, hn⟩ : ∃ n, l.length = n := ⟨_, rfl⟩
    rw [hle]
    rw [hle] at Hu
    rw [hn] at Hu Hv hl ⊢
    have Hlen := Lib.hid hlen
    have Hn := Lib.hid hn
    clear hlen hle hn
    go_enter Tryz.func82, Tryz.ntmps82
    go_wp2
    go_loopw [13] (fun i wr => ∃ k : Nat, k ≤ n ∧ i = .int .i64 k ∧ l.take k = m.take k ∧ Below w.heap.size w wr) (fun i _ => n - (intOf i).toNat)
    case atStart => exact ⟨0, by omega, rfl, rfl, Below.refl _ _⟩
    case round =>
      obtain ⟨k, hk, rfl, heq, hB⟩ := hrel
      have Heq := Lib.hid heq
      clear heq
      by_cases hlt : k < n
      · have hcell : ∀ (a : Option Addr) (x : List UInt8) (c : Nat), Rd w (.slice a n c) (bcells x) → (hx : x.length = n) → ∃ b o, a = some ⟨b, o, none⟩ ∧ wr.cell? ⟨b, o + k, none⟩ = some (.int .u8 ((x[k]'(by omega)).toNat : Int)) := by
          intro a x c hr hx
          rcases hr with ⟨he, h0⟩ | ⟨b, o, n', cc, he, _, hc⟩
          · simp [bcells] at h0; subst h0; simp at hx; omega
          · cases he
            have := hc k _ (bcells_at (by omega))
            exact ⟨b, o, rfl, (hB.cell (p := ⟨b, o + k, none⟩) (cell_lt this)).trans this⟩
        obtain ⟨b1, o1, rfl, hc1⟩ := hcell a l c Hv.out Hn.out
        obtain ⟨b2, o2, rfl, hc2⟩ := hcell a2 m c2 Hu.out (Hlen.out ▸ Hn.out)
        have hkl : k < l.length := by rw [Hn.out]; exact hlt
        have hkm : k < m.length := by rw [← Hlen.out, Hn.out]; exact hlt
        obtain ⟨x, hx⟩ : ∃ x, l[k] = x := ⟨_, rfl⟩
        obtain ⟨y, hy⟩ : ∃ y, m[k] = y := ⟨_, rfl⟩
        rw [hx] at hc1
        rw [hy] at hc2
        have hno : x ≠ y → l ≠ m := by
          intro h e
          subst e
          exact h (hx.symm.trans hy)
        have hyes : x = y → l.take (k + 1) = m.take (k + 1) := by
          intro h
          rw [List.take_succ_eq_append_getElem hkl, List.take_succ_eq_append_getElem hkm, Heq.out, hx, hy, h]
        have Hno := Lib.hid hno
        have Hyes := Lib.hid hyes
        clear hno hyes hx hy hcell
        by_cases hxy : x = y
        · subst hxy
          have hne : ((x.toNat : Int) != (x.toNat : Int)) = false := by simp
          go_wp2
          go_quiet (fail)
          go_wp2
          go_roundw
          case rel => exact ⟨k + 1, by omega, by go_num, Hyes.out trivial, below_drewN hB _⟩
          case measure => simp [intOf]; omega
        · have hne : ((x.toNat : Int) != (y.toNat : Int)) = true := by
            simp only [bne_iff_ne, ne_eq]
            exact fun e => hxy (UInt8.toNat_inj.1 (by omega))
          have Hno2 := Lib.hid (Hno.out hxy)
          clear hxy
          go_wp2
          go_quiet (fail)
          go_wp2
          go_ret
          exact ⟨by simp [Hno2.out], below_drewN hB _⟩
      · go_wp2
        go_ret
        have : l = m := by
          have h := Heq.out
          rwa [List.take_of_length_le (by rw [Hn.out]; omega), List.take_of_length_le (by rw [← Hlen.out, Hn.out]; omega)] at h
        exact ⟨by simp [this], hB⟩
  · have hne : ((l.length : Int) != (m.length : Int)) = true := by simpa using fun e : (l.length : Int) = m.length => hlen (by omega)
    have hfin : decide (l = m) = false := by simpa using fun e : l = m => hlen (by rw [e])
    rw [hfin]
    clear hlen hfin
    go_enter Tryz.func82, Tryz.ntmps82
    go_wp2
    go_ret
    exact ⟨rfl, Below.refl _ _⟩

/-- where the first byte below 128 stands; -1: nowhere. -/
def idxF (l : List UInt8) : Int := match l.findIdx? (fun x => decide (x.toNat < 128)) with
  | some e => e
  | none => -1
set_option maxHeartbeats 400000 in
theorem below128_yes (x : UInt8) (w : World) (h : (x.toNat : Int) < 128) : Calls Tryz.prog 86 #[.int .u8 x.toNat] w fun e w' => e = .returned (.bool true) ∧ w = w' := by
  go_enter Tryz.func86, Tryz.ntmps86
  go_wp2
  go_ret
  exact ⟨rfl, rfl⟩
set_option maxHeartbeats 400000 in
theorem below128_no (x : UInt8) (w : World) (h : ¬ (x.toNat : Int) < 128) : Calls Tryz.prog 86 #[.int .u8 x.toNat] w fun e w' => e = .returned (.bool false) ∧ w = w' := by
  go_enter Tryz.func86, Tryz.ntmps86
  go_wp2
  go_ret
  exact ⟨rfl, rfl⟩
set_option maxRecDepth 100000 in
set_option maxHeartbeats 2000000 in
theorem slIndexFunc_any (w : World) (v : Value) (l : List UInt8) (hv : Rd w v (bcells l)) (hl : l.length ≤ 140737488355328) :
    Calls Tryz.prog 85 #[v, .func (.func 86) #[] #[]] w fun e w' => e = .returned (.int .i64 (idxF l)) ∧ w = w' := by
  obtain ⟨a, c, rfl⟩ := hv.shape
  rw [bcells_length] at hv ⊢
  have Hv := Lib.hid hv
  clear hv
  go_enter Tryz.func85, Tryz.ntmps85
  go_wp2
  go_loop [8] (fun i => ∃ k : Nat, k ≤ l.length ∧ i = .int .i64 k ∧ ∀ j (hj : j < l.length), j < k → ¬ l[j].toNat < 128) (fun i => l.length - (intOf i).toNat)
  case atStart => exact ⟨0, by omega, rfl, fun j _ h => by omega⟩
  case round =>
    obtain ⟨k, hk, rfl, hall⟩ := hrel
    have Hall := Lib.hid hall
    clear hall
    by_cases hlt : k < l.length
    · obtain ⟨b, o, rfl, hc⟩ : ∃ b o, a = some ⟨b, o, none⟩ ∧ w.cell? ⟨b, o + k, none⟩ = some (.int .u8 (l[k].toNat : Int)) := by
        rcases Hv.out with ⟨_, h0⟩ | ⟨b, o, n', cc, he, _, hc⟩
        · simp [bcells] at h0; subst h0; simp at hlt
        · cases he
          exact ⟨b, o, rfl, hc k _ (bcells_at hlt)⟩
      by_cases hx : (l[k].toNat : Int) < 128
      · have hfin : idxF l = k := by
          unfold idxF
          have : l.findIdx? (fun x => decide (x.toNat < 128)) = some k := List.findIdx?_eq_some_iff_getElem.2 ⟨hlt, by simp; omega, fun j hj => by simpa using Hall.out j (by omega) hj⟩
          rw [this]
        have Hfin := Lib.hid hfin
        clear hfin
        obtain ⟨x, hx0⟩ : ∃ x, l[k] = x := ⟨_, rfl⟩
        rw [hx0] at hx hc
        clear hx0
        go_wp2_with (go_at_call 86; refine (below128_yes _ _ hx).mono ?_; rintro e w1 ⟨rfl, rfl⟩)
        go_ret
        exact ⟨by rw [Hfin.out]; rfl, rfl⟩
      · have hnext : ∀ j (hj : j < l.length), j < k + 1 → ¬ l[j].toNat < 128 := fun j hj h => by
          by_cases e : j = k
          · subst e; omega
          · exact Hall.out j hj (by omega)
        have Hnext := Lib.hid hnext
        clear hnext
        obtain ⟨x, hx0⟩ : ∃ x, l[k] = x := ⟨_, rfl⟩
        rw [hx0] at hx hc
        clear hx0
        go_wp2_with (go_at_call 86; refine (below128_no _ _ hx).mono ?_; rintro e w1 ⟨rfl, rfl⟩)
        go_round
        case rel => exact ⟨k + 1, by omega, by go_num, Hnext.out⟩
        case measure => simp [intOf]; omega
    · have hfin : idxF l = -1 := by
        unfold idxF
        have : l.findIdx? (fun x => decide (x.toNat < 128)) = none := List.findIdx?_eq_none_iff.2 fun x hx => by
          obtain ⟨j, hj, rfl⟩ := List.getElem_of_mem hx
          simpa using Hall.out j hj (by omega)
        rw [this]
      have Hfin := Lib.hid hfin
      clear hfin
      go_wp2
      go_ret
      exact ⟨by rw [Hfin.out]; rfl, rfl⟩
end Go.Proofs.YtnagejhpdhdpfaaGreatDoor
