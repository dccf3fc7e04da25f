/-
  RootsPlays: the document's Write, region 17: the new file is given the root's name (printed by wip/gen/gen_rp3b.py).
-/
import Derived.Outline
import Derived.Deep.RegionHeld3
import Derived.Test.YtkacgmbinkoojaaGreatDoorMRpB
import Derived.Deep.CutRange
import Derived.Test.YtkacgmbinkoojaaGreatDoorMRfC
namespace Go.Proofs.YtkacgmbinkoojaaGreatDoor
open Go.RowKit Go.Maps Go.MapKept
set_option linter.unusedSimpArgs false
set_option linter.unusedVariables false
set_option maxRecDepth 100000 in
set_option maxHeartbeats 60000000 in
theorem x6_reg17 (v : World) (bD S dd : Nat) (E : ByteArray) (m l m' l' ne : Int) (a : Option Addr) (n c : Nat) (dn dn' : Bool) (Pr : World → Option Addr → Nat → Nat → Prop) (Q : Exit → Act → World → Prop)
    (hz : v.drew.heap[bD]? = some (.cells #[.int .i64 m, .slice a n c, .int .i64 l, .bool dn] 29 (0, 0)))
    (hs : v.drew.cell? ⟨bD + 1, 0, none⟩ = some (.int .i64 (S : Int)))
    (hm : (S : Int).tmod 2 = (dd : Int)) (hd2 : dd < 2) (hE : (⟨#[48, 49]⟩ : ByteArray).extract dd (dd + 1) = E) (hEs : E.size = 1)
    (H : Calls Tryz.prog 37 #[.agg #[.int .i64 m, .slice a n c, .int .i64 l, .bool dn], .string ⟨#[114, 111, 111, 116, 46, 110, 101, 119]⟩, .string ((⟨#[114, 111, 111, 116]⟩ : ByteArray) ++ E)] v.drew fun e w' => ∃ a' n' c', e = .returned (.tuple #[.agg #[.int .i64 m', .slice a' n' c', .int .i64 l', .bool dn'], .int .i64 ne]) ∧ Pr w' a' n' c' ∧ Below v.drew.heap.size v.drew w')
    (t0 t1 t4 t5 t6 t7 t8 t9 t10 t11 t12 t13 t14 t15 t16 t17 t18 t19 t20 t21 t22 t23 t24 t25 t26 t27 t28 t29 t30 t31 t32 t33 t34 t35 t36 t37 t38 t39 t40 t41 t42 t43 t44 t45 t46 t47 t48 t49 t50 t51 t52 t53 t54 t55 t56 t57 t58 t59 t60 t61 t62 t63 t64 t65 t66 t67 t68 t69 t70 t71 t72 t73 t74 t75 t76 t77 t78 t79 t80 t81 t82 t83 t84 t85 : Value)
    (hP : ∀ c (a : Act) (i : Nat) v w', Q (.panic c) (a.put (some i) v) w' → Q (.panic c) a w')
    (hN : ∀ (w' : World) (a' : Option Addr) (n' c' : Nat), Pr w' a' n' c' → Below v.drew.heap.size v.drew w' → Q .normal { tmps := #[t0, t1, .pointer (some ⟨bD, 0, none⟩), .pointer (some ⟨bD + 1, 0, none⟩), t4, t5, t6, t7, t8, .int .i64 ne, t10, t11, t12, t13, t14, t15, t16, t17, t18, t19, t20, t21, t22, t23, t24, t25, t26, t27, t28, t29, t30, t31, t32, t33, t34, t35, t36, t37, t38, t39, t40, t41, t42, t43, t44, t45, t46, t47, t48, t49, t50, t51, t52, t53, t54, t55, t56, t57, t58, t59, t60, t61, t62, t63, t64, .tuple #[.agg #[.int .i64 m', .slice a' n' c', .int .i64 l', .bool dn'], .int .i64 ne], .agg #[.int .i64 m, .slice a n c, .int .i64 l, .bool dn], .pointer (some ⟨bD + 1, 0, none⟩), .int .i64 (S : Int), .int .i64 (dd : Int), .pointer (some ⟨bD + 1, 0, none⟩), .int .i64 (S : Int), .int .i64 (dd : Int), .int .i64 ((dd : Int) + 1), .string E, .string ((⟨#[114, 111, 111, 116]⟩ : ByteArray) ++ E), .tuple #[.agg #[.int .i64 m', .slice a' n' c', .int .i64 l', .bool dn'], .int .i64 ne], .agg #[.int .i64 m', .slice a' n' c', .int .i64 l', .bool dn'], .int .i64 ne, t79, t80, t81, t82, t83, t84, t85], defers := [] } ((((w'.setCell ⟨bD, 0, none⟩ (.int .i64 m')).setCell ⟨bD, 1, none⟩ (.slice a' n' c')).setCell ⟨bD, 2, none⟩ (.int .i64 l')).setCell ⟨bD, 3, none⟩ (.bool dn'))) :
    (Code.region 17 (opsOf (regOf Tryz.f8 17)) true).wp Tryz.prog Q { tmps := #[t0, t1, .pointer (some ⟨bD, 0, none⟩), .pointer (some ⟨bD + 1, 0, none⟩), t4, t5, t6, t7, t8, t9, t10, t11, t12, t13, t14, t15, t16, t17, t18, t19, t20, t21, t22, t23, t24, t25, t26, t27, t28, t29, t30, t31, t32, t33, t34, t35, t36, t37, t38, t39, t40, t41, t42, t43, t44, t45, t46, t47, t48, t49, t50, t51, t52, t53, t54, t55, t56, t57, t58, t59, t60, t61, t62, t63, t64, t65, t66, t67, t68, t69, t70, t71, t72, t73, t74, t75, t76, t77, t78, t79, t80, t81, t82, t83, t84, t85], defers := [] } v := by
  refine wp_region_held_drew (S := (fun _ => True)) (by kernel_rfl) trivial (fun _ => ?_)
  obtain ⟨V, hV⟩ : ∃ V, v.drew = V := ⟨_, rfl⟩
  rw [hV] at hz hs H hN ⊢
  clear hV
  have hdi : (dd : Int) < 2 := by omega
  have h00 : (0 : Int) ≤ (dd : Int) := by omega
  have h01 : (dd : Int) ≤ (dd : Int) + 1 := by omega
  have h02 : (dd : Int) + 1 ≤ 2 := by omega
  have h03 : (0 : Int) ≤ (dd : Int) + 1 := by omega
  have h04 : ((dd : Int) + 1).toNat = dd + 1 := by omega
  have hwd : IntKind.i64.wrap ((dd : Int) + 1) = (dd : Int) + 1 := IntWalk.i64_in _ (by omega)
  have HP := Lib.hid hP
  have HN := Lib.hid hN
  have HH := Lib.hid H
  have HZ := Lib.hid hz
  clear hP hN H
  obtain ⟨y0, y1, y2, y3, z0, z1, z2, z3⟩ := cells4 hz
  clear hz
  obtain ⟨OPS, hO⟩ : ∃ o, o = (opsOf (regOf Tryz.f8 17)) := ⟨_, rfl⟩
  rw [← hO]
  simp only [regOf, opsOf, Tryz.f8, findR, Nat.beq, cond_true, cond_false, Option.getD_some, List.append] at hO
  have hM : wpAnyH Tryz.prog .any OPS Q (fun _ => True) 6 #[true, true, true, true, true, true, true, true, true, true, false, false, false, false, false, false] { tmps := #[t0, t1, .pointer (some ⟨bD, 0, none⟩), .pointer (some ⟨bD + 1, 0, none⟩), t4, t5, t6, t7, t8, t9, t10, t11, t12, t13, t14, t15, t16, t17, t18, t19, t20, t21, t22, t23, t24, t25, t26, t27, t28, t29, t30, t31, t32, t33, t34, t35, t36, t37, t38, t39, t40, t41, t42, t43, t44, t45, t46, t47, t48, t49, t50, t51, t52, t53, t54, t55, t56, t57, t58, t59, t60, t61, t62, t63, t64, t65, .agg #[.int .i64 m, .slice a n c, .int .i64 l, .bool dn], .pointer (some ⟨bD + 1, 0, none⟩), .int .i64 (S : Int), .int .i64 (dd : Int), .pointer (some ⟨bD + 1, 0, none⟩), .int .i64 (S : Int), .int .i64 (dd : Int), .int .i64 ((dd : Int) + 1), .string E, .string ((⟨#[114, 111, 111, 116]⟩ : ByteArray) ++ E), t76, t77, t78, t79, t80, t81, t82, t83, t84, t85], defers := [] } V := by
    subst hO
    refine wpAnyH_ready (rs := [10]) (by kernel_rfl) (by simp) (AllReadyH.cons rfl (fun K hK => ?_) AllReadyH.nil)
    go_simp
    refine HH.out.mono ?_
    rintro e wk ⟨a', n', c', rfl, hpr, hx⟩
    refine hK.out _ _ trivial (fun _ => ?_)
    clear hK K
    (try simp only [Act.put, List.getElem_toArray, List.getElem_cons_zero, List.getElem_cons_succ, List.setIfInBounds_toArray, List.set_cons_zero, List.set_cons_succ])
    clear y0 y1 y2 y3 z0 z1 z2 z3
    obtain ⟨y0, y1, y2, y3, z0, z1, z2, z3⟩ := cells4 ((hx.block _ (blk_lt HZ.out)).trans HZ.out)
    refine wpAnyH_take (i := 11) (v := .tuple #[.agg #[.int .i64 m', .slice a' n' c', .int .i64 l', .bool dn'], .int .i64 ne]) rfl (by kernel_rfl) (by kernel_rfl) (by kernel_rfl) (fun _ _ _ h => HP.out _ _ _ _ _ h) (Or.inl ⟨by rfl, ?_⟩) trivial ?_
    · (intro wz hSz; clear hSz; go_simp) <;> with_reducible rfl
    simp only [Act.put, List.getElem_toArray, List.getElem_cons_zero, List.getElem_cons_succ, List.setIfInBounds_toArray, List.set_cons_zero, List.set_cons_succ]
    refine wpAnyH_take (i := 12) (v := .agg #[.int .i64 m', .slice a' n' c', .int .i64 l', .bool dn']) rfl (by kernel_rfl) (by kernel_rfl) (by kernel_rfl) (fun _ _ _ h => HP.out _ _ _ _ _ h) (Or.inl ⟨by rfl, ?_⟩) trivial ?_
    · (intro wz hSz; clear hSz; go_simp) <;> with_reducible rfl
    simp only [Act.put, List.getElem_toArray, List.getElem_cons_zero, List.getElem_cons_succ, List.setIfInBounds_toArray, List.set_cons_zero, List.set_cons_succ]
    refine wpAnyH_take (i := 13) (v := .int .i64 ne) rfl (by kernel_rfl) (by kernel_rfl) (by kernel_rfl) (fun _ _ _ h => HP.out _ _ _ _ _ h) (Or.inl ⟨by rfl, ?_⟩) trivial ?_
    · (intro wz hSz; clear hSz; go_simp) <;> with_reducible rfl
    simp only [Act.put, List.getElem_toArray, List.getElem_cons_zero, List.getElem_cons_succ, List.setIfInBounds_toArray, List.set_cons_zero, List.set_cons_succ]
    refine wpAnyH_ready (rs := [14]) (by kernel_rfl) (by simp) (AllReadyH.cons rfl (fun K hK => ?_) AllReadyH.nil)
    go_simp
    refine hK.out _ _ trivial (fun _ => ?_)
    clear hK K
    (try simp only [Act.put, List.getElem_toArray, List.getElem_cons_zero, List.getElem_cons_succ, List.setIfInBounds_toArray, List.set_cons_zero, List.set_cons_succ])
    refine wpAnyH_take (i := 15) (v := .int .i64 ne) rfl (by kernel_rfl) (by kernel_rfl) (by kernel_rfl) (fun _ _ _ h => HP.out _ _ _ _ _ h) (Or.inl ⟨by rfl, ?_⟩) trivial ?_
    · (intro wz hSz; clear hSz; go_simp) <;> with_reducible rfl
    simp only [Act.put, List.getElem_toArray, List.getElem_cons_zero, List.getElem_cons_succ, List.setIfInBounds_toArray, List.set_cons_zero, List.set_cons_succ]
    refine wpAnyH_done (by kernel_rfl) ?_ _
    exact HN.out _ a' n' c' hpr hx
  have HM := Lib.hid hM
  clear hM
  subst hO
  refine wpAnyH_take (i := 1) (v := .pointer (some ⟨bD + 1, 0, none⟩)) rfl (by kernel_rfl) (by kernel_rfl) (by kernel_rfl) (fun _ _ _ h => HP.out _ _ _ _ _ h) (Or.inl ⟨by rfl, ?_⟩) trivial ?_
  · (intro wz hSz; clear hSz; go_simp) <;> with_reducible rfl
  simp only [Act.put, List.getElem_toArray, List.getElem_cons_zero, List.getElem_cons_succ, List.setIfInBounds_toArray, List.set_cons_zero, List.set_cons_succ]
  refine wpAnyH_take (i := 4) (v := .pointer (some ⟨bD + 1, 0, none⟩)) rfl (by kernel_rfl) (by kernel_rfl) (by kernel_rfl) (fun _ _ _ h => HP.out _ _ _ _ _ h) (Or.inl ⟨by rfl, ?_⟩) trivial ?_
  · (intro wz hSz; clear hSz; go_simp) <;> with_reducible rfl
  simp only [Act.put, List.getElem_toArray, List.getElem_cons_zero, List.getElem_cons_succ, List.setIfInBounds_toArray, List.set_cons_zero, List.set_cons_succ]
  refine wpAnyH_ready (rs := [0, 2, 5]) (by kernel_rfl) (by simp) (AllReadyH.cons rfl (fun K hK => ?_) (AllReadyH.cons rfl (fun K hK => ?_) (AllReadyH.cons rfl (fun K hK => ?_) AllReadyH.nil)))
  · go_simp
    refine hK.out _ _ trivial (fun _ => ?_)
    clear hK K
    (try simp only [Act.put, List.getElem_toArray, List.getElem_cons_zero, List.getElem_cons_succ, List.setIfInBounds_toArray, List.set_cons_zero, List.set_cons_succ])
    refine wpAnyH_ready (rs := [2, 5]) (by kernel_rfl) (by simp) (AllReadyH.cons rfl (fun K hK => ?_) (AllReadyH.cons rfl (fun K hK => ?_) AllReadyH.nil))
    · go_simp
      refine hK.out _ _ trivial (fun _ => ?_)
      clear hK K
      (try simp only [Act.put, List.getElem_toArray, List.getElem_cons_zero, List.getElem_cons_succ, List.setIfInBounds_toArray, List.set_cons_zero, List.set_cons_succ])
      refine wpAnyH_take (i := 3) (v := .int .i64 (dd : Int)) rfl (by kernel_rfl) (by kernel_rfl) (by kernel_rfl) (fun _ _ _ h => HP.out _ _ _ _ _ h) (Or.inl ⟨by rfl, ?_⟩) trivial ?_
      · (intro wz hSz; clear hSz; go_simp) <;> with_reducible rfl
      simp only [Act.put, List.getElem_toArray, List.getElem_cons_zero, List.getElem_cons_succ, List.setIfInBounds_toArray, List.set_cons_zero, List.set_cons_succ]
      refine wpAnyH_ready (rs := [5]) (by kernel_rfl) (by simp) (AllReadyH.cons rfl (fun K hK => ?_) AllReadyH.nil)
      go_simp
      refine hK.out _ _ trivial (fun _ => ?_)
      clear hK K
      (try simp only [Act.put, List.getElem_toArray, List.getElem_cons_zero, List.getElem_cons_succ, List.setIfInBounds_toArray, List.set_cons_zero, List.set_cons_succ])
      refine wpAnyH_take (i := 6) (v := .int .i64 (dd : Int)) rfl (by kernel_rfl) (by kernel_rfl) (by kernel_rfl) (fun _ _ _ h => HP.out _ _ _ _ _ h) (Or.inl ⟨by rfl, ?_⟩) trivial ?_
      · (intro wz hSz; clear hSz; go_simp) <;> with_reducible rfl
      simp only [Act.put, List.getElem_toArray, List.getElem_cons_zero, List.getElem_cons_succ, List.setIfInBounds_toArray, List.set_cons_zero, List.set_cons_succ]
      refine wpAnyH_take (i := 7) (v := .int .i64 ((dd : Int) + 1)) rfl (by kernel_rfl) (by kernel_rfl) (by kernel_rfl) (fun _ _ _ h => HP.out _ _ _ _ _ h) (Or.inl ⟨by rfl, ?_⟩) trivial ?_
      · (intro wz hSz; clear hSz; go_simp) <;> with_reducible rfl
      simp only [Act.put, List.getElem_toArray, List.getElem_cons_zero, List.getElem_cons_succ, List.setIfInBounds_toArray, List.set_cons_zero, List.set_cons_succ]
      refine wpAnyH_take (i := 8) (v := .string E) rfl (by kernel_rfl) (by kernel_rfl) (by kernel_rfl) (fun _ _ _ h => HP.out _ _ _ _ _ h) (Or.inl ⟨by rfl, ?_⟩) trivial ?_
      · (intro wz hSz; clear hSz; go_simp) <;> with_reducible rfl
      simp only [Act.put, List.getElem_toArray, List.getElem_cons_zero, List.getElem_cons_succ, List.setIfInBounds_toArray, List.set_cons_zero, List.set_cons_succ]
      refine wpAnyH_take (i := 9) (v := .string ((⟨#[114, 111, 111, 116]⟩ : ByteArray) ++ E)) rfl (by kernel_rfl) (by kernel_rfl) (by kernel_rfl) (fun _ _ _ h => HP.out _ _ _ _ _ h) (Or.inl ⟨by rfl, ?_⟩) trivial ?_
      · (intro wz hSz; clear hSz; go_simp) <;> with_reducible rfl
      simp only [Act.put, List.getElem_toArray, List.getElem_cons_zero, List.getElem_cons_succ, List.setIfInBounds_toArray, List.set_cons_zero, List.set_cons_succ]
      refine wpAnyH_at (f' := 6) (l' := #[true, true, true, true, true, true, true, true, true, true, false, false, false, false, false, false]) (by kernel_rfl) (by kernel_rfl) ?_
      exact HM.out
    · go_simp
      refine hK.out _ _ trivial (fun _ => ?_)
      clear hK K
      (try simp only [Act.put, List.getElem_toArray, List.getElem_cons_zero, List.getElem_cons_succ, List.setIfInBounds_toArray, List.set_cons_zero, List.set_cons_succ])
      refine wpAnyH_take (i := 6) (v := .int .i64 (dd : Int)) rfl (by kernel_rfl) (by kernel_rfl) (by kernel_rfl) (fun _ _ _ h => HP.out _ _ _ _ _ h) (Or.inl ⟨by rfl, ?_⟩) trivial ?_
      · (intro wz hSz; clear hSz; go_simp) <;> with_reducible rfl
      simp only [Act.put, List.getElem_toArray, List.getElem_cons_zero, List.getElem_cons_succ, List.setIfInBounds_toArray, List.set_cons_zero, List.set_cons_succ]
      refine wpAnyH_take (i := 7) (v := .int .i64 ((dd : Int) + 1)) rfl (by kernel_rfl) (by kernel_rfl) (by kernel_rfl) (fun _ _ _ h => HP.out _ _ _ _ _ h) (Or.inl ⟨by rfl, ?_⟩) trivial ?_
      · (intro wz hSz; clear hSz; go_simp) <;> with_reducible rfl
      simp only [Act.put, List.getElem_toArray, List.getElem_cons_zero, List.getElem_cons_succ, List.setIfInBounds_toArray, List.set_cons_zero, List.set_cons_succ]
      refine wpAnyH_ready (rs := [2]) (by kernel_rfl) (by simp) (AllReadyH.cons rfl (fun K hK => ?_) AllReadyH.nil)
      go_simp
      refine hK.out _ _ trivial (fun _ => ?_)
      clear hK K
      (try simp only [Act.put, List.getElem_toArray, List.getElem_cons_zero, List.getElem_cons_succ, List.setIfInBounds_toArray, List.set_cons_zero, List.set_cons_succ])
      refine wpAnyH_take (i := 3) (v := .int .i64 (dd : Int)) rfl (by kernel_rfl) (by kernel_rfl) (by kernel_rfl) (fun _ _ _ h => HP.out _ _ _ _ _ h) (Or.inl ⟨by rfl, ?_⟩) trivial ?_
      · (intro wz hSz; clear hSz; go_simp) <;> with_reducible rfl
      simp only [Act.put, List.getElem_toArray, List.getElem_cons_zero, List.getElem_cons_succ, List.setIfInBounds_toArray, List.set_cons_zero, List.set_cons_succ]
      refine wpAnyH_take (i := 8) (v := .string E) rfl (by kernel_rfl) (by kernel_rfl) (by kernel_rfl) (fun _ _ _ h => HP.out _ _ _ _ _ h) (Or.inl ⟨by rfl, ?_⟩) trivial ?_
      · (intro wz hSz; clear hSz; go_simp) <;> with_reducible rfl
      simp only [Act.put, List.getElem_toArray, List.getElem_cons_zero, List.getElem_cons_succ, List.setIfInBounds_toArray, List.set_cons_zero, List.set_cons_succ]
      refine wpAnyH_take (i := 9) (v := .string ((⟨#[114, 111, 111, 116]⟩ : ByteArray) ++ E)) rfl (by kernel_rfl) (by kernel_rfl) (by kernel_rfl) (fun _ _ _ h => HP.out _ _ _ _ _ h) (Or.inl ⟨by rfl, ?_⟩) trivial ?_
      · (intro wz hSz; clear hSz; go_simp) <;> with_reducible rfl
      simp only [Act.put, List.getElem_toArray, List.getElem_cons_zero, List.getElem_cons_succ, List.setIfInBounds_toArray, List.set_cons_zero, List.set_cons_succ]
      refine wpAnyH_at (f' := 6) (l' := #[true, true, true, true, true, true, true, true, true, true, false, false, false, false, false, false]) (by kernel_rfl) (by kernel_rfl) ?_
      exact HM.out
  · go_simp
    refine hK.out _ _ trivial (fun _ => ?_)
    clear hK K
    (try simp only [Act.put, List.getElem_toArray, List.getElem_cons_zero, List.getElem_cons_succ, List.setIfInBounds_toArray, List.set_cons_zero, List.set_cons_succ])
    refine wpAnyH_take (i := 3) (v := .int .i64 (dd : Int)) rfl (by kernel_rfl) (by kernel_rfl) (by kernel_rfl) (fun _ _ _ h => HP.out _ _ _ _ _ h) (Or.inl ⟨by rfl, ?_⟩) trivial ?_
    · (intro wz hSz; clear hSz; go_simp) <;> with_reducible rfl
    simp only [Act.put, List.getElem_toArray, List.getElem_cons_zero, List.getElem_cons_succ, List.setIfInBounds_toArray, List.set_cons_zero, List.set_cons_succ]
    refine wpAnyH_ready (rs := [0, 5]) (by kernel_rfl) (by simp) (AllReadyH.cons rfl (fun K hK => ?_) (AllReadyH.cons rfl (fun K hK => ?_) AllReadyH.nil))
    · go_simp
      refine hK.out _ _ trivial (fun _ => ?_)
      clear hK K
      (try simp only [Act.put, List.getElem_toArray, List.getElem_cons_zero, List.getElem_cons_succ, List.setIfInBounds_toArray, List.set_cons_zero, List.set_cons_succ])
      refine wpAnyH_ready (rs := [5]) (by kernel_rfl) (by simp) (AllReadyH.cons rfl (fun K hK => ?_) AllReadyH.nil)
      go_simp
      refine hK.out _ _ trivial (fun _ => ?_)
      clear hK K
      (try simp only [Act.put, List.getElem_toArray, List.getElem_cons_zero, List.getElem_cons_succ, List.setIfInBounds_toArray, List.set_cons_zero, List.set_cons_succ])
      refine wpAnyH_take (i := 6) (v := .int .i64 (dd : Int)) rfl (by kernel_rfl) (by kernel_rfl) (by kernel_rfl) (fun _ _ _ h => HP.out _ _ _ _ _ h) (Or.inl ⟨by rfl, ?_⟩) trivial ?_
      · (intro wz hSz; clear hSz; go_simp) <;> with_reducible rfl
      simp only [Act.put, List.getElem_toArray, List.getElem_cons_zero, List.getElem_cons_succ, List.setIfInBounds_toArray, List.set_cons_zero, List.set_cons_succ]
      refine wpAnyH_take (i := 7) (v := .int .i64 ((dd : Int) + 1)) rfl (by kernel_rfl) (by kernel_rfl) (by kernel_rfl) (fun _ _ _ h => HP.out _ _ _ _ _ h) (Or.inl ⟨by rfl, ?_⟩) trivial ?_
      · (intro wz hSz; clear hSz; go_simp) <;> with_reducible rfl
      simp only [Act.put, List.getElem_toArray, List.getElem_cons_zero, List.getElem_cons_succ, List.setIfInBounds_toArray, List.set_cons_zero, List.set_cons_succ]
      refine wpAnyH_take (i := 8) (v := .string E) rfl (by kernel_rfl) (by kernel_rfl) (by kernel_rfl) (fun _ _ _ h => HP.out _ _ _ _ _ h) (Or.inl ⟨by rfl, ?_⟩) trivial ?_
      · (intro wz hSz; clear hSz; go_simp) <;> with_reducible rfl
      simp only [Act.put, List.getElem_toArray, List.getElem_cons_zero, List.getElem_cons_succ, List.setIfInBounds_toArray, List.set_cons_zero, List.set_cons_succ]
      refine wpAnyH_take (i := 9) (v := .string ((⟨#[114, 111, 111, 116]⟩ : ByteArray) ++ E)) rfl (by kernel_rfl) (by kernel_rfl) (by kernel_rfl) (fun _ _ _ h => HP.out _ _ _ _ _ h) (Or.inl ⟨by rfl, ?_⟩) trivial ?_
      · (intro wz hSz; clear hSz; go_simp) <;> with_reducible rfl
      simp only [Act.put, List.getElem_toArray, List.getElem_cons_zero, List.getElem_cons_succ, List.setIfInBounds_toArray, List.set_cons_zero, List.set_cons_succ]
      refine wpAnyH_at (f' := 6) (l' := #[true, true, true, true, true, true, true, true, true, true, false, false, false, false, false, false]) (by kernel_rfl) (by kernel_rfl) ?_
      exact HM.out
    · go_simp
      refine hK.out _ _ trivial (fun _ => ?_)
      clear hK K
      (try simp only [Act.put, List.getElem_toArray, List.getElem_cons_zero, List.getElem_cons_succ, List.setIfInBounds_toArray, List.set_cons_zero, List.set_cons_succ])
      refine wpAnyH_take (i := 6) (v := .int .i64 (dd : Int)) rfl (by kernel_rfl) (by kernel_rfl) (by kernel_rfl) (fun _ _ _ h => HP.out _ _ _ _ _ h) (Or.inl ⟨by rfl, ?_⟩) trivial ?_
      · (intro wz hSz; clear hSz; go_simp) <;> with_reducible rfl
      simp only [Act.put, List.getElem_toArray, List.getElem_cons_zero, List.getElem_cons_succ, List.setIfInBounds_toArray, List.set_cons_zero, List.set_cons_succ]
      refine wpAnyH_take (i := 7) (v := .int .i64 ((dd : Int) + 1)) rfl (by kernel_rfl) (by kernel_rfl) (by kernel_rfl) (fun _ _ _ h => HP.out _ _ _ _ _ h) (Or.inl ⟨by rfl, ?_⟩) trivial ?_
      · (intro wz hSz; clear hSz; go_simp) <;> with_reducible rfl
      simp only [Act.put, List.getElem_toArray, List.getElem_cons_zero, List.getElem_cons_succ, List.setIfInBounds_toArray, List.set_cons_zero, List.set_cons_succ]
      refine wpAnyH_take (i := 8) (v := .string E) rfl (by kernel_rfl) (by kernel_rfl) (by kernel_rfl) (fun _ _ _ h => HP.out _ _ _ _ _ h) (Or.inl ⟨by rfl, ?_⟩) trivial ?_
      · (intro wz hSz; clear hSz; go_simp) <;> with_reducible rfl
      simp only [Act.put, List.getElem_toArray, List.getElem_cons_zero, List.getElem_cons_succ, List.setIfInBounds_toArray, List.set_cons_zero, List.set_cons_succ]
      refine wpAnyH_take (i := 9) (v := .string ((⟨#[114, 111, 111, 116]⟩ : ByteArray) ++ E)) rfl (by kernel_rfl) (by kernel_rfl) (by kernel_rfl) (fun _ _ _ h => HP.out _ _ _ _ _ h) (Or.inl ⟨by rfl, ?_⟩) trivial ?_
      · (intro wz hSz; clear hSz; go_simp) <;> with_reducible rfl
      simp only [Act.put, List.getElem_toArray, List.getElem_cons_zero, List.getElem_cons_succ, List.setIfInBounds_toArray, List.set_cons_zero, List.set_cons_succ]
      refine wpAnyH_ready (rs := [0]) (by kernel_rfl) (by simp) (AllReadyH.cons rfl (fun K hK => ?_) AllReadyH.nil)
      go_simp
      refine hK.out _ _ trivial (fun _ => ?_)
      clear hK K
      (try simp only [Act.put, List.getElem_toArray, List.getElem_cons_zero, List.getElem_cons_succ, List.setIfInBounds_toArray, List.set_cons_zero, List.set_cons_succ])
      refine wpAnyH_at (f' := 6) (l' := #[true, true, true, true, true, true, true, true, true, true, false, false, false, false, false, false]) (by kernel_rfl) (by kernel_rfl) ?_
      exact HM.out
  · go_simp
    refine hK.out _ _ trivial (fun _ => ?_)
    clear hK K
    (try simp only [Act.put, List.getElem_toArray, List.getElem_cons_zero, List.getElem_cons_succ, List.setIfInBounds_toArray, List.set_cons_zero, List.set_cons_succ])
    refine wpAnyH_take (i := 6) (v := .int .i64 (dd : Int)) rfl (by kernel_rfl) (by kernel_rfl) (by kernel_rfl) (fun _ _ _ h => HP.out _ _ _ _ _ h) (Or.inl ⟨by rfl, ?_⟩) trivial ?_
    · (intro wz hSz; clear hSz; go_simp) <;> with_reducible rfl
    simp only [Act.put, List.getElem_toArray, List.getElem_cons_zero, List.getElem_cons_succ, List.setIfInBounds_toArray, List.set_cons_zero, List.set_cons_succ]
    refine wpAnyH_take (i := 7) (v := .int .i64 ((dd : Int) + 1)) rfl (by kernel_rfl) (by kernel_rfl) (by kernel_rfl) (fun _ _ _ h => HP.out _ _ _ _ _ h) (Or.inl ⟨by rfl, ?_⟩) trivial ?_
    · (intro wz hSz; clear hSz; go_simp) <;> with_reducible rfl
    simp only [Act.put, List.getElem_toArray, List.getElem_cons_zero, List.getElem_cons_succ, List.setIfInBounds_toArray, List.set_cons_zero, List.set_cons_succ]
    refine wpAnyH_ready (rs := [0, 2]) (by kernel_rfl) (by simp) (AllReadyH.cons rfl (fun K hK => ?_) (AllReadyH.cons rfl (fun K hK => ?_) AllReadyH.nil))
    · go_simp
      refine hK.out _ _ trivial (fun _ => ?_)
      clear hK K
      (try simp only [Act.put, List.getElem_toArray, List.getElem_cons_zero, List.getElem_cons_succ, List.setIfInBounds_toArray, List.set_cons_zero, List.set_cons_succ])
      refine wpAnyH_ready (rs := [2]) (by kernel_rfl) (by simp) (AllReadyH.cons rfl (fun K hK => ?_) AllReadyH.nil)
      go_simp
      refine hK.out _ _ trivial (fun _ => ?_)
      clear hK K
      (try simp only [Act.put, List.getElem_toArray, List.getElem_cons_zero, List.getElem_cons_succ, List.setIfInBounds_toArray, List.set_cons_zero, List.set_cons_succ])
      refine wpAnyH_take (i := 3) (v := .int .i64 (dd : Int)) rfl (by kernel_rfl) (by kernel_rfl) (by kernel_rfl) (fun _ _ _ h => HP.out _ _ _ _ _ h) (Or.inl ⟨by rfl, ?_⟩) trivial ?_
      · (intro wz hSz; clear hSz; go_simp) <;> with_reducible rfl
      simp only [Act.put, List.getElem_toArray, List.getElem_cons_zero, List.getElem_cons_succ, List.setIfInBounds_toArray, List.set_cons_zero, List.set_cons_succ]
      refine wpAnyH_take (i := 8) (v := .string E) rfl (by kernel_rfl) (by kernel_rfl) (by kernel_rfl) (fun _ _ _ h => HP.out _ _ _ _ _ h) (Or.inl ⟨by rfl, ?_⟩) trivial ?_
      · (intro wz hSz; clear hSz; go_simp) <;> with_reducible rfl
      simp only [Act.put, List.getElem_toArray, List.getElem_cons_zero, List.getElem_cons_succ, List.setIfInBounds_toArray, List.set_cons_zero, List.set_cons_succ]
      refine wpAnyH_take (i := 9) (v := .string ((⟨#[114, 111, 111, 116]⟩ : ByteArray) ++ E)) rfl (by kernel_rfl) (by kernel_rfl) (by kernel_rfl) (fun _ _ _ h => HP.out _ _ _ _ _ h) (Or.inl ⟨by rfl, ?_⟩) trivial ?_
      · (intro wz hSz; clear hSz; go_simp) <;> with_reducible rfl
      simp only [Act.put, List.getElem_toArray, List.getElem_cons_zero, List.getElem_cons_succ, List.setIfInBounds_toArray, List.set_cons_zero, List.set_cons_succ]
      refine wpAnyH_at (f' := 6) (l' := #[true, true, true, true, true, true, true, true, true, true, false, false, false, false, false, false]) (by kernel_rfl) (by kernel_rfl) ?_
      exact HM.out
    · go_simp
      refine hK.out _ _ trivial (fun _ => ?_)
      clear hK K
      (try simp only [Act.put, List.getElem_toArray, List.getElem_cons_zero, List.getElem_cons_succ, List.setIfInBounds_toArray, List.set_cons_zero, List.set_cons_succ])
      refine wpAnyH_take (i := 3) (v := .int .i64 (dd : Int)) rfl (by kernel_rfl) (by kernel_rfl) (by kernel_rfl) (fun _ _ _ h => HP.out _ _ _ _ _ h) (Or.inl ⟨by rfl, ?_⟩) trivial ?_
      · (intro wz hSz; clear hSz; go_simp) <;> with_reducible rfl
      simp only [Act.put, List.getElem_toArray, List.getElem_cons_zero, List.getElem_cons_succ, List.setIfInBounds_toArray, List.set_cons_zero, List.set_cons_succ]
      refine wpAnyH_take (i := 8) (v := .string E) rfl (by kernel_rfl) (by kernel_rfl) (by kernel_rfl) (fun _ _ _ h => HP.out _ _ _ _ _ h) (Or.inl ⟨by rfl, ?_⟩) trivial ?_
      · (intro wz hSz; clear hSz; go_simp) <;> with_reducible rfl
      simp only [Act.put, List.getElem_toArray, List.getElem_cons_zero, List.getElem_cons_succ, List.setIfInBounds_toArray, List.set_cons_zero, List.set_cons_succ]
      refine wpAnyH_take (i := 9) (v := .string ((⟨#[114, 111, 111, 116]⟩ : ByteArray) ++ E)) rfl (by kernel_rfl) (by kernel_rfl) (by kernel_rfl) (fun _ _ _ h => HP.out _ _ _ _ _ h) (Or.inl ⟨by rfl, ?_⟩) trivial ?_
      · (intro wz hSz; clear hSz; go_simp) <;> with_reducible rfl
      simp only [Act.put, List.getElem_toArray, List.getElem_cons_zero, List.getElem_cons_succ, List.setIfInBounds_toArray, List.set_cons_zero, List.set_cons_succ]
      refine wpAnyH_ready (rs := [0]) (by kernel_rfl) (by simp) (AllReadyH.cons rfl (fun K hK => ?_) AllReadyH.nil)
      go_simp
      refine hK.out _ _ trivial (fun _ => ?_)
      clear hK K
      (try simp only [Act.put, List.getElem_toArray, List.getElem_cons_zero, List.getElem_cons_succ, List.setIfInBounds_toArray, List.set_cons_zero, List.set_cons_succ])
      refine wpAnyH_at (f' := 6) (l' := #[true, true, true, true, true, true, true, true, true, true, false, false, false, false, false, false]) (by kernel_rfl) (by kernel_rfl) ?_
      exact HM.out
end Go.Proofs.YtkacgmbinkoojaaGreatDoor

/-
  RootsPlays: lemmas for the document's Write: the plain disk stays well formed; the boxes of Write.
-/
namespace Go.Proofs.YtkacgmbinkoojaaGreatDoor
open Go.RowKit Go.Maps Go.MapKept
set_option linter.unusedSimpArgs false
theorem wf_remove {d : ADisk} (h : d.WF) (s : ByteArray) : (d.remove s).WF := by
  unfold ADisk.remove
  split
  · exact h
  · split
    · exact h
    · split
      · exact h.fail
      · exact h.tick.del s
theorem wf_append {d : ADisk} (h : d.WF) (s : ByteArray) (b : List UInt8) : (d.append s b).WF := by
  unfold ADisk.append
  split
  · exact h
  · split
    · exact h
    · next hn =>
      split
      · exact h
      · next hu =>
        split
        · exact h
        · next hc =>
          unfold ADisk.put
          split
          · exact h.fail
          · refine h.put (by simpa using hn) _ ?_ ?_
            · have := Int.not_lt.1 hu
              simp only [AFile.len, List.length_append]
              push_cast
              omega
            · cases hl : lk d.fs s with
              | some f => exact Or.inl rfl
              | none => rw [hl] at hc; refine Or.inr (Nat.lt_of_not_le (fun h2 => hc ⟨rfl, h2⟩))
theorem wf_sync {d : ADisk} (h : d.WF) (s : ByteArray) : (d.sync s).WF := by
  unfold ADisk.sync
  split
  · exact h
  · split
    · exact h
    · next hn =>
      cases hl : lk d.fs s with
      | none => rw [hl] at hn; exact absurd rfl hn
      | some f =>
        unfold ADisk.cutTo ADisk.put
        split
        · exact h.fail
        · exact h.cutTo hl _
theorem read_most {d : ADisk} (h : d.WF) (s : ByteArray) : (d.readBytes s).length ≤ 16777216 := by
  unfold ADisk.readBytes
  split
  · have h1 := afile_le h s
    have h2 := h.used
    have h3 := h.most1
    simp only [AFile.len] at h1
    simp only [List.length_append]
    omega
  · simp
theorem set4w_old {w : World} {A B : Nat} {o : Obj} (h : w.heap[B]? = some o) (hAB : B ≠ A) (x y z u : Value) : ((((w.setCell ⟨A, 0, none⟩ x).setCell ⟨A, 1, none⟩ y).setCell ⟨A, 2, none⟩ z).setCell ⟨A, 3, none⟩ u).heap[B]? = some o :=
  setCell_old (setCell_old (setCell_old (setCell_old h hAB 0 x) hAB 1 y) hAB 2 z) hAB 3 u
variable {X : Nat → Prop}
/-- the boxes of Write: its disk, its root, what it tells. -/
structure WBox (wx : World) (b : Nat) (m : Int) (a : Option Addr) (n c : Nat) (l : Int) (dn : Bool) (s t cc : Int) (vb : Value) : Prop where
  d : wx.heap[b]? = some (.cells #[.int .i64 m, .slice a n c, .int .i64 l, .bool dn] 29 (0, 0))
  r : wx.heap[b + 1]? = some (.cells #[.int .i64 s, .int .i64 t, .int .i64 cc, vb] 35 (0, 0))
  od : wx.heap[b + 1 + 1]? = some (.cells #[.int .i64 0, .slice none 0 0, .int .i64 0, .bool false] 29 (0, 0))
  or : wx.heap[b + 1 + 1 + 1]? = some (.cells #[.int .i64 0, .int .i64 0, .int .i64 0, .slice none 0 0] 35 (0, 0))
theorem WBox.below {wx w' : World} {b : Nat} {m : Int} {a : Option Addr} {n c : Nat} {l : Int} {dn : Bool} {s t cc : Int} {vb : Value} (h : WBox wx b m a n c l dn s t cc vb) (hb : Below wx.heap.size wx w') : WBox w' b m a n c l dn s t cc vb :=
  ⟨(hb.block _ (blk_lt h.d)).trans h.d, (hb.block _ (blk_lt h.r)).trans h.r, (hb.block _ (blk_lt h.od)).trans h.od, (hb.block _ (blk_lt h.or)).trans h.or⟩
/-- the disk's box written. -/
theorem WBox.setD {wx : World} {b : Nat} {m : Int} {a : Option Addr} {n c : Nat} {l : Int} {dn : Bool} {s t cc : Int} {vb : Value} (h : WBox wx b m a n c l dn s t cc vb) (m' : Int) (a' : Option Addr) (n' c' : Nat) (l' : Int) (dn' : Bool) :
    WBox ((((wx.setCell ⟨b, 0, none⟩ (.int .i64 m')).setCell ⟨b, 1, none⟩ (.slice a' n' c')).setCell ⟨b, 2, none⟩ (.int .i64 l')).setCell ⟨b, 3, none⟩ (.bool dn')) b m' a' n' c' l' dn' s t cc vb :=
  ⟨setCell4_at h.d _ _ _ _, set4w_old h.r (by omega) _ _ _ _, set4w_old h.od (by omega) _ _ _ _, set4w_old h.or (by omega) _ _ _ _⟩
/-- the root's first number written. -/
theorem WBox.setS {wx : World} {b : Nat} {m : Int} {a : Option Addr} {n c : Nat} {l : Int} {dn : Bool} {s t cc : Int} {vb : Value} (h : WBox wx b m a n c l dn s t cc vb) (s' : Int) :
    WBox (wx.setCell ⟨b + 1, 0, none⟩ (.int .i64 s')) b m a n c l dn s' t cc vb :=
  ⟨setCell_old h.d (by omega) 0 _, setCell_at h.r 0 _, setCell_old h.od (by omega) 0 _, setCell_old h.or (by omega) 0 _⟩
/-- what Write knows of its disk: the boxes, and that the disk lies apart from them. -/
def OffB (X : Nat → Prop) (b : Nat) (k : Nat) : Prop := X k ∧ (k < b ∨ b + 4 ≤ k)
structure WS (X : Nat → Prop) (w0 : World) (wx : World) (D : ADisk) (a : Option Addr) (n c : Nat) (s t cc : Int) (vb : Value) : Prop where
  box : WBox wx w0.heap.size D.most a n c D.left D.down s t cc vb
  ref : RefAt (OffB X w0.heap.size) wx a n c D
  bl : Below w0.heap.size w0 wx
namespace WS
variable {w0 wx w3 : World} {D D' : ADisk} {a a' : Option Addr} {n c n' c' : Nat} {s t cc : Int} {vb : Value}
theorem below (h : WS X w0 wx D a n c s t cc vb) (hb : Below wx.heap.size wx w3) : WS X w0 w3 D a n c s t cc vb := ⟨h.box.below hb, h.ref.below hb, h.bl.trans (hb.mono h.bl.size)⟩
theorem offUpd (h : WS X w0 wx D a n c s t cc vb) {fp : Nat → Prop} (hU : Upd fp wx w3) (hf : ∀ k, fp k → w0.heap.size ≤ k ∧ k < w0.heap.size + 4) : RefAt (OffB X w0.heap.size) w3 a n c D :=
  h.ref.keep (ex := fun k => OffB X w0.heap.size k ∧ k < wx.heap.size) (Keep.ofUpd hU (fun k hk => ⟨hk.2, fun e => by have := hf k e; have := hk.1.2; omega⟩)) (fun k hk hl => ⟨hk, hl⟩)
/-- the disk's box holds another disk. -/
theorem put (h : WS X w0 wx D a n c s t cc vb) (hR : RefAt (OffB X w0.heap.size) wx a' n' c' D') :
    WS X w0 ((((wx.setCell ⟨w0.heap.size, 0, none⟩ (.int .i64 D'.most)).setCell ⟨w0.heap.size, 1, none⟩ (.slice a' n' c')).setCell ⟨w0.heap.size, 2, none⟩ (.int .i64 D'.left)).setCell ⟨w0.heap.size, 3, none⟩ (.bool D'.down)) D' a' n' c' s t cc vb := by
  have hU := setCell4_upd (w := wx) (b := w0.heap.size) (.int .i64 D'.most) (.slice a' n' c') (.int .i64 D'.left) (.bool D'.down)
  refine ⟨h.box.setD _ _ _ _ _ _, ?_, below4W h.bl (Nat.le_refl _) _ _ _ _⟩
  exact hR.keep (ex := fun k => OffB X w0.heap.size k ∧ k < wx.heap.size) (Keep.ofUpd hU (fun k hk => ⟨hk.2, fun e => by have := hk.1.2; omega⟩)) (fun k hk hl => ⟨hk, hl⟩)
theorem setS (h : WS X w0 wx D a n c s t cc vb) (s' : Int) : WS X w0 (wx.setCell ⟨w0.heap.size + 1, 0, none⟩ (.int .i64 s')) D a n c s' t cc vb := by
  have hU : Upd (· = w0.heap.size + 1) wx (wx.setCell ⟨w0.heap.size + 1, 0, none⟩ (.int .i64 s')) := setCell_upd 0 _
  exact ⟨h.box.setS s', h.offUpd hU (fun k e => by omega), h.bl.setCell (p := ⟨w0.heap.size + 1, 0, none⟩) (by simp) _⟩
theorem newX (h : WS X w0 wx D a n c s t cc vb) (hX : NewOk X w0) : NewOk (OffB X w0.heap.size) wx := fun k hk => ⟨hX k (Nat.le_trans h.bl.size hk), Or.inr (by have := blk_lt h.box.or; omega)⟩
/-- behind what Write tells: the disk is where it was. -/
theorem told (h : WS X w0 wx D a n c s t cc vb) (x0 x1 x2 x3 y0 y1 y2 y3 : Value) :
    RefAt X ((((((((wx.setCell ⟨w0.heap.size + 1 + 1, 0, none⟩ x0).setCell ⟨w0.heap.size + 1 + 1, 1, none⟩ x1).setCell ⟨w0.heap.size + 1 + 1, 2, none⟩ x2).setCell ⟨w0.heap.size + 1 + 1, 3, none⟩ x3).setCell ⟨w0.heap.size + 1 + 1 + 1, 0, none⟩ y0).setCell ⟨w0.heap.size + 1 + 1 + 1, 1, none⟩ y1).setCell ⟨w0.heap.size + 1 + 1 + 1, 2, none⟩ y2).setCell ⟨w0.heap.size + 1 + 1 + 1, 3, none⟩ y3) a n c D ∧
      Below w0.heap.size w0 ((((((((wx.setCell ⟨w0.heap.size + 1 + 1, 0, none⟩ x0).setCell ⟨w0.heap.size + 1 + 1, 1, none⟩ x1).setCell ⟨w0.heap.size + 1 + 1, 2, none⟩ x2).setCell ⟨w0.heap.size + 1 + 1, 3, none⟩ x3).setCell ⟨w0.heap.size + 1 + 1 + 1, 0, none⟩ y0).setCell ⟨w0.heap.size + 1 + 1 + 1, 1, none⟩ y1).setCell ⟨w0.heap.size + 1 + 1 + 1, 2, none⟩ y2).setCell ⟨w0.heap.size + 1 + 1 + 1, 3, none⟩ y3) := by
  have hU1 := setCell4_upd (w := wx) (b := w0.heap.size + 1 + 1) x0 x1 x2 x3
  have hU2 := setCell4_upd (w := ((((wx.setCell ⟨w0.heap.size + 1 + 1, 0, none⟩ x0).setCell ⟨w0.heap.size + 1 + 1, 1, none⟩ x1).setCell ⟨w0.heap.size + 1 + 1, 2, none⟩ x2).setCell ⟨w0.heap.size + 1 + 1, 3, none⟩ x3)) (b := w0.heap.size + 1 + 1 + 1) y0 y1 y2 y3
  have hU : Upd (fun k => w0.heap.size ≤ k ∧ k < w0.heap.size + 4) wx _ := (hU1.mono (fun k e => Or.inl (by omega))).trans (hU2.mono (fp' := fun k => w0.heap.size ≤ k ∧ k < w0.heap.size + 4) (fun k e => Or.inl (by omega))) (fun k hk => Or.inl hk)
  refine ⟨(h.offUpd hU (fun k e => e)).narrow (fun k hk _ => hk.1), below4W (b := w0.heap.size + 1 + 1 + 1) (below4W (b := w0.heap.size + 1 + 1) h.bl (by omega) _ _ _ _) (by omega) _ _ _ _⟩
end WS
end Go.Proofs.YtkacgmbinkoojaaGreatDoor

/-
  RootsPlays: the document's Write.
-/
namespace Go.Proofs.YtkacgmbinkoojaaGreatDoor
open Go.RowKit Go.Maps Go.MapKept
set_option linter.unusedSimpArgs false
variable {X : Nat → Prop}

/-- what the document's Write tells. -/
def XwPost (X : Nat → Prop) (d : ADisk) (t c : Int) (vb : Value) (b : List UInt8) (w : World) (e : Ending) (w' : World) : Prop :=
  ∃ a' n' c', e = .returned (.tuple #[refVal a' n' c' (wrAll d t c b).1, if (wrAll d t c b).2 = 0 then rootV ((readR d).serial + 1 : Nat) t c vb else zeroV, .int .i64 (wrAll d t c b).2]) ∧ RefAt X w' a' n' c' (wrAll d t c b).1 ∧ Below w.heap.size w w'
theorem XwPost.bad {d D : ADisk} {t c : Int} {vb : Value} {b : List UInt8} {w w' : World} {a : Option Addr} {n k : Nat} (er : Int) (h : wrAll d t c b = (D, er)) (h0 : er ≠ 0) (hR : RefAt X w' a n k D ∧ Below w.heap.size w w') :
    XwPost X d t c vb b w (.returned (.tuple #[.agg #[.int .i64 D.most, .slice a n k, .int .i64 D.left, .bool D.down], .agg #[.int .i64 0, .int .i64 0, .int .i64 0, .slice none 0 0], .int .i64 er])) w' := by
  refine ⟨a, n, k, ?_, by rw [h]; exact hR.1, hR.2⟩
  rw [h, if_neg h0]; rfl
theorem XwPost.good {d D : ADisk} {t c s : Int} {vb : Value} {b : List UInt8} {w w' : World} {a : Option Addr} {n k : Nat} (h : wrAll d t c b = (D, 0)) (hs : ((readR d).serial : Int) + 1 = s) (hR : RefAt X w' a n k D ∧ Below w.heap.size w w') :
    XwPost X d t c vb b w (.returned (.tuple #[.agg #[.int .i64 D.most, .slice a n k, .int .i64 D.left, .bool D.down], .agg #[.int .i64 s, .int .i64 t, .int .i64 c, vb], .int .i64 0])) w' := by
  refine ⟨a, n, k, ?_, by rw [h]; exact hR.1, hR.2⟩
  rw [h, if_pos rfl, ← hs]; rfl
set_option maxRecDepth 100000 in
set_option maxHeartbeats 8000000 in
theorem x6Write_any (w : World) (a : Option Addr) (n c : Nat) (d : ADisk) (s t cc : Int) (vb : Value) (b : List UInt8) (h : RefAt X w a n c d) (hw : d.WF) (hX : NewOk X w) (ht : isI64 t) (hc : isI64 cc) (hv : Rd w vb (bcells b)) (hb : b.length ≤ 1000000) :
    Calls Tryz.prog 8 #[refVal a n c d, rootV s t cc vb] w (XwPost X d t cc vb b w) := by
  obtain ⟨ab, cb, rfl⟩ := hv.shape
  rw [bcells_length] at hv ⊢
  obtain ⟨R, hR⟩ : ∃ R, readR d = R := ⟨_, rfl⟩
  have hRl := readR_le d
  rw [hR] at hRl
  obtain ⟨hR1, hR2, hR3, hR4⟩ := hRl
  obtain ⟨W, hW⟩ : ∃ W, (((w.alloc (.cells #[.int .i64 d.most, .slice a n c, .int .i64 d.left, .bool d.down] 29)).alloc (.cells #[.int .i64 s, .int .i64 t, .int .i64 cc, .slice ab b.length cb] 35)).alloc (.cells #[.int .i64 0, .slice none 0 0, .int .i64 0, .bool false] 29)).alloc (.cells #[.int .i64 0, .int .i64 0, .int .i64 0, .slice none 0 0] 35) = W := ⟨_, rfl⟩
  have hBW : Below w.heap.size w W := by rw [← hW]; exact ((((Below.refl _ _).alloc (Nat.le_refl _) _).alloc (by simp) _).alloc (by simp; omega) _).alloc (by simp; omega) _
  have hWx : WBox W w.heap.size d.most a n c d.left d.down s t cc (.slice ab b.length cb) := by
    rw [← hW]
    refine ⟨alloc_old (alloc_old (alloc2_at0 _ _ _) _) _, alloc_old (alloc_old (alloc2_at _ _ _) _) _, ?_, ?_⟩
    · have := alloc_at ((w.alloc (.cells #[.int .i64 d.most, .slice a n c, .int .i64 d.left, .bool d.down] 29)).alloc (.cells #[.int .i64 s, .int .i64 t, .int .i64 cc, .slice ab b.length cb] 35)) (.cells #[.int .i64 0, .slice none 0 0, .int .i64 0, .bool false] 29)
      exact alloc_old (by simpa using this) _
    · have := alloc_at (((w.alloc (.cells #[.int .i64 d.most, .slice a n c, .int .i64 d.left, .bool d.down] 29)).alloc (.cells #[.int .i64 s, .int .i64 t, .int .i64 cc, .slice ab b.length cb] 35)).alloc (.cells #[.int .i64 0, .slice none 0 0, .int .i64 0, .bool false] 29)) (.cells #[.int .i64 0, .int .i64 0, .int .i64 0, .slice none 0 0] 35)
      simpa using this
  have hS0 : WS X w W d a n c s t cc (.slice ab b.length cb) := ⟨hWx, (h.narrow (fun k hk hl => ⟨hk, Or.inl hl⟩)).below hBW, hBW⟩
  have hRead := x6Read_any W a n c d (h.below hBW) hw (fun s => read_most hw s)
  unfold RrPost at hRead
  rw [hR] at hRead
  unfold rootV refVal at hRead
  obtain ⟨y0, y1, y2, y3, _⟩ := cells4 hWx.d
  have HRead := Lib.hid hRead
  have HW := Lib.hid hW
  have HS0 := Lib.hid hS0
  have HR := Lib.hid hR
  clear hRead hW hWx hS0 hR h
  have hBy : ∀ wX, Below w.heap.size w wX → Calls Tryz.prog 35 #[.agg #[.int .i64 ((R.serial : Int) + 1), .int .i64 t, .int .i64 cc, .slice ab b.length cb]] wX (RbPost ((R.serial : Int) + 1) t cc b wX) := fun wX hX =>
    x6Bytes_any wX _ t cc _ b (by unfold isI64; omega) ht hc (hv.below hX) (by omega)
  obtain ⟨er, her⟩ : ∃ er, rbErr ((R.serial : Int) + 1) t cc b.length = er := ⟨_, rfl⟩
  obtain ⟨L, hL⟩ : ∃ L, rbOut ((R.serial : Int) + 1) t cc b = L := ⟨_, rfl⟩
  have hBy2 : ∀ wX, Below w.heap.size w wX → Calls Tryz.prog 35 #[.agg #[.int .i64 ((R.serial : Int) + 1), .int .i64 t, .int .i64 cc, .slice ab b.length cb]] wX fun e w' => ∃ a cc, e = .returned (.tuple #[.slice a L.length cc, .int .i64 er]) ∧ w'.ownsRow wX.heap.size 5 1 (.slice a L.length cc) L.length (bcells L) ∧ Below wX.heap.size wX w' := by
    intro wX hX
    have := hBy wX hX
    unfold RbPost at this
    rw [her, hL] at this
    exact this
  have HBy := Lib.hid hBy2
  clear hBy hBy2 hv
  unfold refVal rootV
  by_cases hd : d.down = true
  · have hall : wrAll d t cc b = (d, 15) := by unfold wrAll; rw [if_pos hd]
    have he : readE d = 15 := by unfold readE; rw [if_pos hd]
    have Hall := Lib.hid hall
    have HRd := HRead.out
    rw [he] at HRd
    have HRd2 := Lib.hid HRd
    clear hd hall he HRd
    go_enter Tryz.func8, Tryz.ntmps8
    go_upto_region 2 with (go_at_call 10; rw [HW.out]; refine HRd2.out.mono ?_; rintro e w1 ⟨a1, c1, rfl, hrow, hB1⟩)
    have hS2 := HS0.out.below (hB1.alloc hB1.size (.cells #[.int .i64 R.serial, .int .i64 R.tick, .int .i64 R.commit, .slice a1 R.blob.length c1] 35))
    obtain ⟨w2, hw2⟩ : ∃ x, w1.alloc (.cells #[.int .i64 R.serial, .int .i64 R.tick, .int .i64 R.commit, .slice a1 R.blob.length c1] 35) = x := ⟨_, rfl⟩
    rw [hw2] at hS2 ⊢
    have HS2 := Lib.hid hS2
    obtain ⟨q0, q1, q2, q3, f0, f1, f2, f3⟩ := cells4 hS2.box.d
    obtain ⟨p0, p1, p2, p3, g0, g1, g2, g3⟩ := cells4 hS2.box.od
    obtain ⟨r0, r1, r2, r3, k0, k1, k2, k3⟩ := cells4 hS2.box.or
    clear hrow hB1 hw2 hS2
    go_wp2_with fail
    exact bodyPost_ret (v := .tuple #[.agg #[.int .i64 d.most, .slice a n c, .int .i64 d.left, .bool d.down], .agg #[.int .i64 0, .int .i64 0, .int .i64 0, .slice none 0 0], .int .i64 15]) (by simp [results, Tryz.results8, go_sem, q0, q1, q2, q3, p0, p1, p2, p3, r0, r1, r2, r3]) rfl (XwPost.bad 15 Hall.out (by decide) (HS2.out.told _ _ _ _ _ _ _ _))
  · have he : readE d = 0 := by unfold readE; rw [if_neg hd]
    have HRd := HRead.out
    rw [he] at HRd
    have HRd2 := Lib.hid HRd
    have hcast : (((R.serial + 1 : Nat) : Nat) : Int) = (R.serial : Int) + 1 := rfl
    have hall : wrAll d t cc b = if er ≠ 0 then (d, er) else wrSteps d (R.serial + 1) L := by
      unfold wrAll
      rw [if_neg hd, HR.out, hcast, her, hL]
    have hLl : L.length ≤ 1099511627776 := by
      rw [← hL]
      unfold rbOut
      split
      · rename_i h0
        have hok := rb_ok h0
        have := hok.b1
        unfold sealL ARoot.bytes
        have v1 : ∀ n, n ≤ 9007199254740992 → (vint n).length ≤ 10 := fun n hn => vint_len (by omega) (Nat.lt_of_le_of_lt hn (by decide))
        have h1 := v1 _ hok.s1
        have h2 := v1 _ hok.t1
        have h3 := v1 _ hok.c1
        have h4 := v1 (aroot ((R.serial : Int) + 1) t cc b).blob.length (by omega)
        simp only [List.length_append, sumL_len, List.length_cons, List.length_nil]
        omega
      · simp
    have Hall := Lib.hid hall
    clear hd he HRd her hL hcast hall
    by_cases h0 : er = 0
    · subst h0
      have Hall2 := Lib.hid (Hall.out.trans (if_neg (fun h => h rfl)))
      obtain ⟨D1, hD1⟩ : ∃ D, d.remove freshN = D := ⟨_, rfl⟩
      have hw1 : D1.WF := by rw [← hD1]; exact wf_remove hw _
      have hRm := fun (wX : World) (hR : RefAt (OffB X w.heap.size) wX a n c d) (hN : NewOk (OffB X w.heap.size) wX) => refRemove_any wX a n c d freshN hR hw hN
      unfold refVal at hRm
      have hno := remove_none d freshN
      rw [hD1] at hRm hno
      obtain ⟨re, hre⟩ : ∃ e, d.removeErr freshN = e := ⟨_, rfl⟩
      rw [hre] at hRm hno
      have hgo : goneE d = if re = 13 then 0 else re := by unfold goneE; rw [hre]
      have HRm := Lib.hid hRm
      have Hno := Lib.hid hno
      have Hgo := Lib.hid hgo
      have HD1 := Lib.hid hD1
      have HX := Lib.hid hX
      clear hRm hno hre hgo hD1 hX
      unfold freshN at HRm
      go_enter Tryz.func8, Tryz.ntmps8
      go_upto_region 2 with (go_at_call 10; rw [HW.out]; refine HRd2.out.mono ?_; rintro e w1 ⟨a1, c1, rfl, hrow, hB1⟩)
      have hS2 := HS0.out.below (hB1.alloc hB1.size (.cells #[.int .i64 R.serial, .int .i64 R.tick, .int .i64 R.commit, .slice a1 R.blob.length c1] 35))
      have hA := alloc_at w1 (.cells #[.int .i64 R.serial, .int .i64 R.tick, .int .i64 R.commit, .slice a1 R.blob.length c1] 35)
      obtain ⟨w2, hw2⟩ : ∃ x, w1.alloc (.cells #[.int .i64 R.serial, .int .i64 R.tick, .int .i64 R.commit, .slice a1 R.blob.length c1] 35) = x := ⟨_, rfl⟩
      rw [hw2] at hS2 hA ⊢
      have HS2 := Lib.hid hS2
      obtain ⟨u0, _⟩ := cells4 hA
      obtain ⟨s0, s1, s2, s3, z0, z1, z2, z3⟩ := cells4 hS2.box.r
      clear hrow hB1 hw2 hS2 hA
      go_upto_region 6 with (go_at_call 35; refine (HBy.out _ (HS2.out.setS _).bl).mono ?_; rintro e w3 ⟨aL, cL, rfl, hrow2, hB3⟩)
      have hS3 := (HS2.out.setS ((R.serial : Int) + 1)).below hB3
      have hsz := (HS2.out.setS ((R.serial : Int) + 1)).box.or
      have hlg : ∀ g, (Value.slice aL L.length cL).ownBlock = some g → w.heap.size + 4 ≤ g := fun g hg => by have h1 := row_from hrow2 hg; have h2 := blk_lt hsz; omega
      have hrd3 := Rd.ofOwns hrow2
      have HS3 := Lib.hid hS3
      have Hrd3 := Lib.hid hrd3
      have Hlg := Lib.hid hlg
      clear u0 s0 s1 s2 s3 z0 z1 z2 z3 hrow2 hB3 hsz hlg hrd3
      obtain ⟨q0, q1, q2, q3, f0, f1, f2, f3⟩ := cells4 hS3.box.d
      clear hS3
      go_upto_if 43 with (go_at_call 20; refine (HRm.out _ HS3.out.ref (HS3.out.newX HX.out)).mono ?_; rintro e w4 ⟨a4, n4, c4, rfl, hR4, hB4⟩)
      have hbA := hB4.alloc hB4.size (.cells #[.int .i64 D1.most, .slice a4 n4 c4, .int .i64 D1.left, .bool D1.down] 29)
      have hS5 := HS3.out.below hbA
      have hA := alloc_at w4 (.cells #[.int .i64 D1.most, .slice a4 n4 c4, .int .i64 D1.left, .bool D1.down] 29)
      have hR5 := hR4.below ((Below.refl w4.heap.size w4).alloc (Nat.le_refl _) (.cells #[.int .i64 D1.most, .slice a4 n4 c4, .int .i64 D1.left, .bool D1.down] 29))
      have hrd5 := Hrd3.out.below hbA
      obtain ⟨w5, hw5⟩ : ∃ x, w4.alloc (.cells #[.int .i64 D1.most, .slice a4 n4 c4, .int .i64 D1.left, .bool D1.down] 29) = x := ⟨_, rfl⟩
      rw [hw5] at hS5 hA hR5 hrd5 ⊢
      have HS5 := Lib.hid hS5
      have HA5 := Lib.hid hA
      have HR5 := Lib.hid (And.intro hR5 hrd5)
      clear hbA hS5 hA hR5 hrd5 hw5 hR4 hB4 q0 q1 q2 q3 f0 f1 f2 f3
      go_cut [] from 44 to 49 (fun wx => ∃ (a2 : Option Addr) (n2 c2 : Nat), WS X w wx D1 a2 n2 c2 ((R.serial : Int) + 1) t cc (.slice ab b.length cb) ∧ Rd wx (.slice aL L.length cL) (bcells L) ∧ goneE d = 0)
      case first =>
        by_cases h13 : re = 13
        · subst h13
          have E13 := Lib.hid (Hno.out rfl)
          have G13 := Lib.hid (Hgo.out.trans (if_pos rfl))
          clear Hno Hgo
          go_wp2_with fail
          go_meet
          case rel => exact ⟨a, n, c, by rw [E13.out]; exact HS5.out, HR5.out.2, G13.out⟩
        · have h13b : (re != 13) = true := by simpa using h13
          obtain ⟨x0, x1, x2, x3, _⟩ := cells4 HA5.out
          obtain ⟨q0, q1, q2, q3, f0, f1, f2, f3⟩ := cells4 HS5.out.box.d
          by_cases hr0 : re = 0
          · subst hr0
            have G0 := Lib.hid (Hgo.out.trans (if_neg (by decide)))
            clear Hno Hgo h13
            go_wp2_with fail
            go_meet
            case rel =>
              have hU := setCell4_upd (w := w5) (b := w.heap.size) (.int .i64 D1.most) (.slice a4 n4 c4) (.int .i64 D1.left) (.bool D1.down)
              exact ⟨a4, n4, c4, HS5.out.put HR5.out.1, HR5.out.2.keep hU (fun g hg e => by have := Hlg.out g hg; omega), G0.out⟩
          · have hr0b : (re != 0) = true := by simpa using hr0
            have hbad := steps_bad (n := R.serial + 1) (L := L) (d := d) (j := 0) (by omega) (fun i hi => absurd hi (Nat.not_lt_zero i)) (by show goneE d ≠ 0; rw [Hgo.out, if_neg h13]; exact hr0)
            have hge : goneE d = re := by rw [Hgo.out, if_neg h13]
            have hall3 : wrAll d t cc b = (D1, re) := by
              rw [Hall2.out, hbad]
              show (d.remove freshN, goneE d) = _
              rw [HD1.out, hge]
            have Hall3 := Lib.hid hall3
            clear hbad hge hall3
            obtain ⟨p0, p1, p2, p3, g0, g1, g2, g3⟩ := cells4 HS5.out.box.od
            obtain ⟨r0, r1, r2, r3, k0, k1, k2, k3⟩ := cells4 HS5.out.box.or
            go_upto_region 11 with fail
            have hS6 := HS5.out.put HR5.out.1
            obtain ⟨w6, hw6⟩ : ∃ x, ((((w5.setCell ⟨w.heap.size, 0, none⟩ (.int .i64 D1.most)).setCell ⟨w.heap.size, 1, none⟩ (.slice a4 n4 c4)).setCell ⟨w.heap.size, 2, none⟩ (.int .i64 D1.left)).setCell ⟨w.heap.size, 3, none⟩ (.bool D1.down)) = x := ⟨_, rfl⟩
            rw [hw6] at hS6 ⊢
            have HS6 := Lib.hid hS6
            clear hS6 hw6 p0 p1 p2 p3 g0 g1 g2 g3 r0 r1 r2 r3 k0 k1 k2 k3 q0 q1 q2 q3 f0 f1 f2 f3 x0 x1 x2 x3
            obtain ⟨q0, q1, q2, q3, f0, f1, f2, f3⟩ := cells4 HS6.out.box.d
            obtain ⟨p0, p1, p2, p3, g0, g1, g2, g3⟩ := cells4 HS6.out.box.od
            obtain ⟨r0, r1, r2, r3, k0, k1, k2, k3⟩ := cells4 HS6.out.box.or
            go_wp2_with fail
            exact bodyPost_ret (v := .tuple #[.agg #[.int .i64 D1.most, .slice a4 n4 c4, .int .i64 D1.left, .bool D1.down], .agg #[.int .i64 0, .int .i64 0, .int .i64 0, .slice none 0 0], .int .i64 re]) (by simp [results, Tryz.results8, go_sem, q0, q1, q2, q3, p0, p1, p2, p3, r0, r1, r2, r3]) rfl (XwPost.bad re Hall3.out hr0 (HS6.out.told _ _ _ _ _ _ _ _))
      case rest =>
        obtain ⟨a6, n6, c6, hS6, hrd6, hg0⟩ := hcut
        obtain ⟨w6, rfl⟩ : ∃ x, x = wc := ⟨_, rfl⟩
        have HS6 := Lib.hid hS6
        have Hrd6 := Lib.hid hrd6
        have hst0 : stepE d (R.serial + 1) L 0 = 0 := hg0
        obtain ⟨ae, hae⟩ : ∃ e, D1.appendErr freshN L = e := ⟨_, rfl⟩
        obtain ⟨D2, hD2⟩ : ∃ D, D1.append freshN L = D := ⟨_, rfl⟩
        obtain ⟨se, hse⟩ : ∃ e, D2.syncErr freshN = e := ⟨_, rfl⟩
        obtain ⟨D3, hD3⟩ : ∃ D, D2.sync freshN = D := ⟨_, rfl⟩
        obtain ⟨ne, hne⟩ : ∃ e, D3.renameErr freshN (rname (R.serial + 1)) = e := ⟨_, rfl⟩
        obtain ⟨D4, hD4⟩ : ∃ D, D3.rename freshN (rname (R.serial + 1)) = D := ⟨_, rfl⟩
        have hw2 : D2.WF := by rw [← hD2]; exact wf_append hw1 _ _
        have hw3 : D3.WF := by rw [← hD3]; exact wf_sync hw2 _
        have hst1 : stepE d (R.serial + 1) L 1 = ae := by rw [← hae, ← HD1.out]; rfl
        have hst2 : stepE d (R.serial + 1) L 2 = se := by rw [← hse, ← hD2, ← HD1.out]; rfl
        have hst3 : stepE d (R.serial + 1) L 3 = ne := by rw [← hne, ← hD3, ← hD2, ← HD1.out]; rfl
        have hsd2 : stepD d (R.serial + 1) L 2 = D2 := by rw [← hD2, ← HD1.out]; rfl
        have hsd3 : stepD d (R.serial + 1) L 3 = D3 := by rw [← hD3, ← hD2, ← HD1.out]; rfl
        have hsd4 : stepD d (R.serial + 1) L 4 = D4 := by rw [← hD4, ← hD3, ← hD2, ← HD1.out]; rfl
        have e1 : ae ≠ 0 → wrAll d t cc b = (D2, ae) := by
          intro h1
          rw [Hall2.out, steps_bad (j := 1) (by omega) (fun i hi => by obtain rfl : i = 0 := by omega
                                                                       exact hst0) (by rw [hst1]; exact h1), hst1, hsd2]
        have e2 : ae = 0 → se ≠ 0 → wrAll d t cc b = (D3, se) := by
          intro h1 h2
          rw [Hall2.out, steps_bad (j := 2) (by omega) (fun i hi => by
            rcases (by omega : i = 0 ∨ i = 1) with rfl | rfl
            · exact hst0
            · rw [hst1]; exact h1) (by rw [hst2]; exact h2), hst2, hsd3]
        have e3 : ae = 0 → se = 0 → ne ≠ 0 → wrAll d t cc b = (D4, ne) := by
          intro h1 h2 h3
          rw [Hall2.out, steps_bad (j := 3) (by omega) (fun i hi => by
            rcases (by omega : i = 0 ∨ i = 1 ∨ i = 2) with rfl | rfl | rfl
            · exact hst0
            · rw [hst1]; exact h1
            · rw [hst2]; exact h2) (by rw [hst3]; exact h3), hst3, hsd4]
        have e4 : ae = 0 → se = 0 → ne = 0 → wrAll d t cc b = (D4, 0) := by
          intro h1 h2 h3
          rw [Hall2.out, steps_good (fun i hi => by
            rcases (by omega : i = 0 ∨ i = 1 ∨ i = 2 ∨ i = 3) with rfl | rfl | rfl | rfl
            · exact hst0
            · rw [hst1]; exact h1
            · rw [hst2]; exact h2
            · rw [hst3]; exact h3), hsd4]
        have hAp : ∀ (wX : World) (a : Option Addr) (n c : Nat), RefAt (OffB X w.heap.size) wX a n c D1 → NewOk (OffB X w.heap.size) wX → Rd wX (.slice aL L.length cL) (bcells L) →
            Calls Tryz.prog 16 #[.agg #[.int .i64 D1.most, .slice a n c, .int .i64 D1.left, .bool D1.down], .string ⟨#[114, 111, 111, 116, 46, 110, 101, 119]⟩, .slice aL L.length cL] wX (fun e w' => ∃ a' n' c', e = .returned (.tuple #[.agg #[.int .i64 D2.most, .slice a' n' c', .int .i64 D2.left, .bool D2.down], .int .i64 ae]) ∧ RefAt (OffB X w.heap.size) w' a' n' c' D2 ∧ Below wX.heap.size wX w') := by
          intro wX a n c hR hN hrd
          have := refAppend_any wX a n c D1 freshN _ L hR hw1 hN fresh_size hrd (by omega)
          rw [hae, hD2] at this
          exact this
        have hSy : ∀ (wX : World) (a : Option Addr) (n c : Nat), RefAt (OffB X w.heap.size) wX a n c D2 → NewOk (OffB X w.heap.size) wX →
            Calls Tryz.prog 36 #[.agg #[.int .i64 D2.most, .slice a n c, .int .i64 D2.left, .bool D2.down], .string ⟨#[114, 111, 111, 116, 46, 110, 101, 119]⟩] wX (fun e w' => ∃ a' n' c', e = .returned (.tuple #[.agg #[.int .i64 D3.most, .slice a' n' c', .int .i64 D3.left, .bool D3.down], .int .i64 se]) ∧ RefAt (OffB X w.heap.size) w' a' n' c' D3 ∧ Below wX.heap.size wX w') := by
          intro wX a n c hR hN
          have := refSync_any wX a n c D2 freshN hR hw2 hN
          rw [hse, hD3] at this
          exact this
        have hRn : ∀ (wX : World) (a : Option Addr) (n c : Nat), RefAt (OffB X w.heap.size) wX a n c D3 → NewOk (OffB X w.heap.size) wX →
            Calls Tryz.prog 37 #[.agg #[.int .i64 D3.most, .slice a n c, .int .i64 D3.left, .bool D3.down], .string ⟨#[114, 111, 111, 116, 46, 110, 101, 119]⟩, .string (rname (R.serial + 1))] wX (fun e w' => ∃ a' n' c', e = .returned (.tuple #[.agg #[.int .i64 D4.most, .slice a' n' c', .int .i64 D4.left, .bool D4.down], .int .i64 ne]) ∧ RefAt (OffB X w.heap.size) w' a' n' c' D4 ∧ Below wX.heap.size wX w') := by
          intro wX a n c hR hN
          have := refRename_any wX a n c D3 freshN (rname (R.serial + 1)) hR hw3 hN (rname_size _)
          rw [hne, hD4] at this
          exact this
        have HAp := Lib.hid hAp
        have HSy := Lib.hid hSy
        have HRn := Lib.hid hRn
        have E1 := Lib.hid e1
        have E2 := Lib.hid e2
        have E3 := Lib.hid e3
        have E4 := Lib.hid e4
        clear hAp hSy hRn e1 e2 e3 e4 hst0 hst1 hst2 hst3 hsd2 hsd3 hsd4 hD2 hD3 hD4 hae hse hne hg0 hS6 hrd6 Hno Hgo HRm HBy HRead HRd2
        obtain ⟨q0, q1, q2, q3, f0, f1, f2, f3⟩ := cells4 HS6.out.box.d
        obtain ⟨p0, p1, p2, p3, g0, g1, g2, g3⟩ := cells4 HS6.out.box.od
        obtain ⟨r0, r1, r2, r3, k0, k1, k2, k3⟩ := cells4 HS6.out.box.or
        obtain ⟨s0, s1, s2, s3, z0, z1, z2, z3⟩ := cells4 HS6.out.box.r
        by_cases ha0 : ae = 0
        · subst ha0
          by_cases hs0 : se = 0
          · subst hs0
            have E33 := Lib.hid (E3.out rfl rfl)
            have E44 := Lib.hid (E4.out rfl rfl)
            clear E1 E2 E3 E4
            obtain ⟨S, hSe⟩ : ∃ S : Nat, R.serial + 1 = S := ⟨_, rfl⟩
            have hSI : (R.serial : Int) + 1 = (S : Int) := by omega
            obtain ⟨dd, hdd⟩ : ∃ k, S % 2 = k := ⟨_, rfl⟩
            have hd2 : dd < 2 := by omega
            have hm : (S : Int).tmod 2 = (dd : Int) := by rw [Int.tmod_eq_emod_of_nonneg (by omega)]; omega
            have hcut : (⟨#[48, 49]⟩ : ByteArray).extract dd (dd + 1) = ⟨#[UInt8.ofNat (48 + dd)]⟩ := by
              rcases (by omega : dd = 0 ∨ dd = 1) with rfl | rfl <;> decide
            have hrn : (⟨#[114, 111, 111, 116]⟩ : ByteArray) ++ (⟨#[UInt8.ofNat (48 + dd)]⟩ : ByteArray) = rname (R.serial + 1) := by
              unfold rname
              rw [hSe, hdd]
              rcases (by omega : dd = 0 ∨ dd = 1) with rfl | rfl <;> decide
            have Hs := Lib.hid (And.intro hSI (And.intro hm (And.intro hd2 (And.intro hcut hrn))))
            clear hSe hdd hSI hcut hrn hm hd2
            go_upto_if 57 with (go_at_call 16; refine (HAp.out _ _ _ _ HS6.out.ref (HS6.out.newX HX.out) Hrd6.out).mono ?_; rintro e w7 ⟨a7, n7, c7, rfl, hR7, hB7⟩; clear q0 q1 q2 q3 f0 f1 f2 f3 p0 p1 p2 p3 g0 g1 g2 g3 r0 r1 r2 r3 k0 k1 k2 k3 s0 s1 s2 s3 z0 z1 z2 z3; obtain ⟨q0, q1, q2, q3, f0, f1, f2, f3⟩ := cells4 (HS6.out.below hB7).box.d; obtain ⟨p0, p1, p2, p3, g0, g1, g2, g3⟩ := cells4 (HS6.out.below hB7).box.od; obtain ⟨r0, r1, r2, r3, k0, k1, k2, k3⟩ := cells4 (HS6.out.below hB7).box.or; obtain ⟨s0, s1, s2, s3, z0, z1, z2, z3⟩ := cells4 (HS6.out.below hB7).box.r)
            have hS8 := (HS6.out.below hB7).put hR7
            obtain ⟨w8, hw8⟩ : ∃ x, ((((w7.setCell ⟨w.heap.size, 0, none⟩ (.int .i64 D2.most)).setCell ⟨w.heap.size, 1, none⟩ (.slice a7 n7 c7)).setCell ⟨w.heap.size, 2, none⟩ (.int .i64 D2.left)).setCell ⟨w.heap.size, 3, none⟩ (.bool D2.down)) = x := ⟨_, rfl⟩
            rw [hw8] at hS8 ⊢
            have HS8 := Lib.hid hS8
            clear hS8 hw8 hR7 hB7
            clear q0 q1 q2 q3 f0 f1 f2 f3 p0 p1 p2 p3 g0 g1 g2 g3 r0 r1 r2 r3 k0 k1 k2 k3 s0 s1 s2 s3 z0 z1 z2 z3
            obtain ⟨q0, q1, q2, q3, f0, f1, f2, f3⟩ := cells4 HS8.out.box.d
            obtain ⟨p0, p1, p2, p3, g0, g1, g2, g3⟩ := cells4 HS8.out.box.od
            obtain ⟨r0, r1, r2, r3, k0, k1, k2, k3⟩ := cells4 HS8.out.box.or
            obtain ⟨s0, s1, s2, s3, z0, z1, z2, z3⟩ := cells4 HS8.out.box.r
            go_upto_if 64 with (go_at_call 36; refine (HSy.out _ _ _ _ HS8.out.ref (HS8.out.newX HX.out)).mono ?_; rintro e w9 ⟨a9, n9, c9, rfl, hR9, hB9⟩; clear q0 q1 q2 q3 f0 f1 f2 f3 p0 p1 p2 p3 g0 g1 g2 g3 r0 r1 r2 r3 k0 k1 k2 k3 s0 s1 s2 s3 z0 z1 z2 z3; obtain ⟨q0, q1, q2, q3, f0, f1, f2, f3⟩ := cells4 (HS8.out.below hB9).box.d; obtain ⟨p0, p1, p2, p3, g0, g1, g2, g3⟩ := cells4 (HS8.out.below hB9).box.od; obtain ⟨r0, r1, r2, r3, k0, k1, k2, k3⟩ := cells4 (HS8.out.below hB9).box.or; obtain ⟨s0, s1, s2, s3, z0, z1, z2, z3⟩ := cells4 (HS8.out.below hB9).box.r)
            have hS10 := (HS8.out.below hB9).put hR9
            obtain ⟨w10, hw10⟩ : ∃ x, ((((w9.setCell ⟨w.heap.size, 0, none⟩ (.int .i64 D3.most)).setCell ⟨w.heap.size, 1, none⟩ (.slice a9 n9 c9)).setCell ⟨w.heap.size, 2, none⟩ (.int .i64 D3.left)).setCell ⟨w.heap.size, 3, none⟩ (.bool D3.down)) = x := ⟨_, rfl⟩
            rw [hw10] at hS10 ⊢
            have HS10 := Lib.hid hS10
            clear hS10 hw10 hR9 hB9
            clear q0 q1 q2 q3 f0 f1 f2 f3 p0 p1 p2 p3 g0 g1 g2 g3 r0 r1 r2 r3 k0 k1 k2 k3 s0 s1 s2 s3 z0 z1 z2 z3
            obtain ⟨q0, q1, q2, q3, f0, f1, f2, f3⟩ := cells4 HS10.out.box.d
            obtain ⟨p0, p1, p2, p3, g0, g1, g2, g3⟩ := cells4 HS10.out.box.od
            obtain ⟨r0, r1, r2, r3, k0, k1, k2, k3⟩ := cells4 HS10.out.box.or
            obtain ⟨s0, s1, s2, s3, z0, z1, z2, z3⟩ := cells4 HS10.out.box.r
            have hS10 := HS10.out.below (Below.refl _ _).drew
            have HRn2 := HRn.out w10.drew _ _ _ hS10.ref (hS10.newX HX.out)
            rw [← Hs.out.2.2.2.2] at HRn2
            have hs0 := s0
            rw [Hs.out.1] at hs0
            have HRn3 := Lib.hid (And.intro HRn2 hs0)
            have HS10d := Lib.hid hS10
            clear hS10 HRn2 hs0
            go_upto_region 17 with fail
            refine x6_reg17 w10 w.heap.size S dd _ D3.most D3.left D4.most D4.left ne a9 n9 c9 D3.down D4.down (fun w' a' n' c' => RefAt (OffB X w.heap.size) w' a' n' c' D4) _ HS10d.out.box.d HRn3.out.2 Hs.out.2.1 Hs.out.2.2.1 Hs.out.2.2.2.1 rfl HRn3.out.1 _ _ _ _ _ _ _ _ _ _ _ _ _ _ _ _ _ _ _ _ _ _ _ _ _ _ _ _ _ _ _ _ _ _ _ _ _ _ _ _ _ _ _ _ _ _ _ _ _ _ _ _ _ _ _ _ _ _ _ _ _ _ _ _ _ _ _ _ _ _ _ _ _ _ _ _ _ _ _ _ _ _ _ _ (fun _ _ _ _ _ h => h) (fun w11 a11 n11 c11 hR11 hB11 => ?_)
            clear q0 q1 q2 q3 f0 f1 f2 f3 p0 p1 p2 p3 g0 g1 g2 g3 r0 r1 r2 r3 k0 k1 k2 k3 s0 s1 s2 s3 z0 z1 z2 z3
            have hS12 := (HS10d.out.below hB11).put hR11
            obtain ⟨w12, hw12⟩ : ∃ x, ((((w11.setCell ⟨w.heap.size, 0, none⟩ (.int .i64 D4.most)).setCell ⟨w.heap.size, 1, none⟩ (.slice a11 n11 c11)).setCell ⟨w.heap.size, 2, none⟩ (.int .i64 D4.left)).setCell ⟨w.heap.size, 3, none⟩ (.bool D4.down)) = x := ⟨_, rfl⟩
            rw [hw12] at hS12 ⊢
            have HS12 := Lib.hid hS12
            clear hS12 hw12 hR11 hB11
            obtain ⟨q0, q1, q2, q3, f0, f1, f2, f3⟩ := cells4 HS12.out.box.d
            obtain ⟨p0, p1, p2, p3, g0, g1, g2, g3⟩ := cells4 HS12.out.box.od
            obtain ⟨r0, r1, r2, r3, k0, k1, k2, k3⟩ := cells4 HS12.out.box.or
            obtain ⟨s0, s1, s2, s3, z0, z1, z2, z3⟩ := cells4 HS12.out.box.r
            by_cases hn0 : ne = 0
            · subst hn0
              have Hall3 := Lib.hid (E44.out rfl)
              clear E33 E44
              go_upto_region 20 with fail
              go_region
              go_wp2_with fail
              have ht := HS12.out.told (.int .i64 D4.most) (.slice a11 n11 c11) (.int .i64 D4.left) (.bool D4.down) (.int .i64 ((R.serial : Int) + 1)) (.int .i64 t) (.int .i64 cc) (.slice ab b.length cb)
              exact bodyPost_ret (v := .tuple #[.agg #[.int .i64 D4.most, .slice a11 n11 c11, .int .i64 D4.left, .bool D4.down], .agg #[.int .i64 ((R.serial : Int) + 1), .int .i64 t, .int .i64 cc, .slice ab b.length cb], .int .i64 0]) (by simp [results, Tryz.results8, go_sem, q0, q1, q2, q3, p0, p1, p2, p3, r0, r1, r2, r3]) rfl (XwPost.good Hall3.out (by rw [HR.out]) ⟨ht.1.below (Below.refl _ _).drew, ht.2.drew⟩)
            · have hn0c : (ne != 0) = true := by simpa using hn0
              have Hall3 := Lib.hid (E33.out hn0)
              have Hn0 := Lib.hid hn0
              clear E33 E44 hn0
              go_wp2_with fail
              exact bodyPost_ret (v := .tuple #[.agg #[.int .i64 D4.most, .slice a11 n11 c11, .int .i64 D4.left, .bool D4.down], .agg #[.int .i64 0, .int .i64 0, .int .i64 0, .slice none 0 0], .int .i64 ne]) (by simp [results, Tryz.results8, go_sem, q0, q1, q2, q3, p0, p1, p2, p3, r0, r1, r2, r3]) rfl (XwPost.bad ne Hall3.out Hn0.out (HS12.out.told _ _ _ _ _ _ _ _))
          · have hs0b : (se == 0) = false := by simpa using hs0
            have hs0c : (se != 0) = true := by simpa using hs0
            have Hall3 := Lib.hid (E2.out rfl hs0)
            have Hs0 := Lib.hid hs0
            clear E1 E2 E3 E4 hs0
            go_upto_if 57 with (go_at_call 16; refine (HAp.out _ _ _ _ HS6.out.ref (HS6.out.newX HX.out) Hrd6.out).mono ?_; rintro e w7 ⟨a7, n7, c7, rfl, hR7, hB7⟩; clear q0 q1 q2 q3 f0 f1 f2 f3 p0 p1 p2 p3 g0 g1 g2 g3 r0 r1 r2 r3 k0 k1 k2 k3 s0 s1 s2 s3 z0 z1 z2 z3; obtain ⟨q0, q1, q2, q3, f0, f1, f2, f3⟩ := cells4 (HS6.out.below hB7).box.d; obtain ⟨p0, p1, p2, p3, g0, g1, g2, g3⟩ := cells4 (HS6.out.below hB7).box.od; obtain ⟨r0, r1, r2, r3, k0, k1, k2, k3⟩ := cells4 (HS6.out.below hB7).box.or; obtain ⟨s0, s1, s2, s3, z0, z1, z2, z3⟩ := cells4 (HS6.out.below hB7).box.r)
            have hS8 := (HS6.out.below hB7).put hR7
            obtain ⟨w8, hw8⟩ : ∃ x, ((((w7.setCell ⟨w.heap.size, 0, none⟩ (.int .i64 D2.most)).setCell ⟨w.heap.size, 1, none⟩ (.slice a7 n7 c7)).setCell ⟨w.heap.size, 2, none⟩ (.int .i64 D2.left)).setCell ⟨w.heap.size, 3, none⟩ (.bool D2.down)) = x := ⟨_, rfl⟩
            rw [hw8] at hS8 ⊢
            have HS8 := Lib.hid hS8
            clear hS8 hw8 hR7 hB7
            clear q0 q1 q2 q3 f0 f1 f2 f3 p0 p1 p2 p3 g0 g1 g2 g3 r0 r1 r2 r3 k0 k1 k2 k3 s0 s1 s2 s3 z0 z1 z2 z3
            obtain ⟨q0, q1, q2, q3, f0, f1, f2, f3⟩ := cells4 HS8.out.box.d
            obtain ⟨p0, p1, p2, p3, g0, g1, g2, g3⟩ := cells4 HS8.out.box.od
            obtain ⟨r0, r1, r2, r3, k0, k1, k2, k3⟩ := cells4 HS8.out.box.or
            obtain ⟨s0, s1, s2, s3, z0, z1, z2, z3⟩ := cells4 HS8.out.box.r
            go_upto_if 64 with (go_at_call 36; refine (HSy.out _ _ _ _ HS8.out.ref (HS8.out.newX HX.out)).mono ?_; rintro e w9 ⟨a9, n9, c9, rfl, hR9, hB9⟩; clear q0 q1 q2 q3 f0 f1 f2 f3 p0 p1 p2 p3 g0 g1 g2 g3 r0 r1 r2 r3 k0 k1 k2 k3 s0 s1 s2 s3 z0 z1 z2 z3; obtain ⟨q0, q1, q2, q3, f0, f1, f2, f3⟩ := cells4 (HS8.out.below hB9).box.d; obtain ⟨p0, p1, p2, p3, g0, g1, g2, g3⟩ := cells4 (HS8.out.below hB9).box.od; obtain ⟨r0, r1, r2, r3, k0, k1, k2, k3⟩ := cells4 (HS8.out.below hB9).box.or; obtain ⟨s0, s1, s2, s3, z0, z1, z2, z3⟩ := cells4 (HS8.out.below hB9).box.r)
            have hS10 := (HS8.out.below hB9).put hR9
            obtain ⟨w10, hw10⟩ : ∃ x, ((((w9.setCell ⟨w.heap.size, 0, none⟩ (.int .i64 D3.most)).setCell ⟨w.heap.size, 1, none⟩ (.slice a9 n9 c9)).setCell ⟨w.heap.size, 2, none⟩ (.int .i64 D3.left)).setCell ⟨w.heap.size, 3, none⟩ (.bool D3.down)) = x := ⟨_, rfl⟩
            rw [hw10] at hS10 ⊢
            have HS10 := Lib.hid hS10
            clear hS10 hw10 hR9 hB9
            clear q0 q1 q2 q3 f0 f1 f2 f3 p0 p1 p2 p3 g0 g1 g2 g3 r0 r1 r2 r3 k0 k1 k2 k3 s0 s1 s2 s3 z0 z1 z2 z3
            obtain ⟨q0, q1, q2, q3, f0, f1, f2, f3⟩ := cells4 HS10.out.box.d
            obtain ⟨p0, p1, p2, p3, g0, g1, g2, g3⟩ := cells4 HS10.out.box.od
            obtain ⟨r0, r1, r2, r3, k0, k1, k2, k3⟩ := cells4 HS10.out.box.or
            obtain ⟨s0, s1, s2, s3, z0, z1, z2, z3⟩ := cells4 HS10.out.box.r
            go_wp2_with fail
            exact bodyPost_ret (v := .tuple #[.agg #[.int .i64 D3.most, .slice a9 n9 c9, .int .i64 D3.left, .bool D3.down], .agg #[.int .i64 0, .int .i64 0, .int .i64 0, .slice none 0 0], .int .i64 se]) (by simp [results, Tryz.results8, go_sem, q0, q1, q2, q3, p0, p1, p2, p3, r0, r1, r2, r3]) rfl (XwPost.bad se Hall3.out Hs0.out (HS10.out.told _ _ _ _ _ _ _ _))
        · have ha0b : (ae == 0) = false := by simpa using ha0
          have ha0c : (ae != 0) = true := by simpa using ha0
          have Hall3 := Lib.hid (E1.out ha0)
          have Ha0 := Lib.hid ha0
          clear E1 E2 E3 E4 ha0
          go_upto_if 57 with (go_at_call 16; refine (HAp.out _ _ _ _ HS6.out.ref (HS6.out.newX HX.out) Hrd6.out).mono ?_; rintro e w7 ⟨a7, n7, c7, rfl, hR7, hB7⟩; clear q0 q1 q2 q3 f0 f1 f2 f3 p0 p1 p2 p3 g0 g1 g2 g3 r0 r1 r2 r3 k0 k1 k2 k3 s0 s1 s2 s3 z0 z1 z2 z3; obtain ⟨q0, q1, q2, q3, f0, f1, f2, f3⟩ := cells4 (HS6.out.below hB7).box.d; obtain ⟨p0, p1, p2, p3, g0, g1, g2, g3⟩ := cells4 (HS6.out.below hB7).box.od; obtain ⟨r0, r1, r2, r3, k0, k1, k2, k3⟩ := cells4 (HS6.out.below hB7).box.or; obtain ⟨s0, s1, s2, s3, z0, z1, z2, z3⟩ := cells4 (HS6.out.below hB7).box.r)
          have hS8 := (HS6.out.below hB7).put hR7
          obtain ⟨w8, hw8⟩ : ∃ x, ((((w7.setCell ⟨w.heap.size, 0, none⟩ (.int .i64 D2.most)).setCell ⟨w.heap.size, 1, none⟩ (.slice a7 n7 c7)).setCell ⟨w.heap.size, 2, none⟩ (.int .i64 D2.left)).setCell ⟨w.heap.size, 3, none⟩ (.bool D2.down)) = x := ⟨_, rfl⟩
          rw [hw8] at hS8 ⊢
          have HS8 := Lib.hid hS8
          clear hS8 hw8 hR7 hB7
          clear q0 q1 q2 q3 f0 f1 f2 f3 p0 p1 p2 p3 g0 g1 g2 g3 r0 r1 r2 r3 k0 k1 k2 k3 s0 s1 s2 s3 z0 z1 z2 z3
          obtain ⟨q0, q1, q2, q3, f0, f1, f2, f3⟩ := cells4 HS8.out.box.d
          obtain ⟨p0, p1, p2, p3, g0, g1, g2, g3⟩ := cells4 HS8.out.box.od
          obtain ⟨r0, r1, r2, r3, k0, k1, k2, k3⟩ := cells4 HS8.out.box.or
          obtain ⟨s0, s1, s2, s3, z0, z1, z2, z3⟩ := cells4 HS8.out.box.r
          go_wp2_with fail
          exact bodyPost_ret (v := .tuple #[.agg #[.int .i64 D2.most, .slice a7 n7 c7, .int .i64 D2.left, .bool D2.down], .agg #[.int .i64 0, .int .i64 0, .int .i64 0, .slice none 0 0], .int .i64 ae]) (by simp [results, Tryz.results8, go_sem, q0, q1, q2, q3, p0, p1, p2, p3, r0, r1, r2, r3]) rfl (XwPost.bad ae Hall3.out Ha0.out (HS8.out.told _ _ _ _ _ _ _ _))
    · have h0b : (er != 0) = true := by simpa using h0
      have Hall2 := Lib.hid (Hall.out.trans (if_pos h0))
      have H0 := Lib.hid h0
      clear h0
      go_enter Tryz.func8, Tryz.ntmps8
      go_upto_region 2 with (go_at_call 10; rw [HW.out]; refine HRd2.out.mono ?_; rintro e w1 ⟨a1, c1, rfl, hrow, hB1⟩)
      have hS2 := HS0.out.below (hB1.alloc hB1.size (.cells #[.int .i64 R.serial, .int .i64 R.tick, .int .i64 R.commit, .slice a1 R.blob.length c1] 35))
      have hA := alloc_at w1 (.cells #[.int .i64 R.serial, .int .i64 R.tick, .int .i64 R.commit, .slice a1 R.blob.length c1] 35)
      obtain ⟨w2, hw2⟩ : ∃ x, w1.alloc (.cells #[.int .i64 R.serial, .int .i64 R.tick, .int .i64 R.commit, .slice a1 R.blob.length c1] 35) = x := ⟨_, rfl⟩
      rw [hw2] at hS2 hA ⊢
      have HS2 := Lib.hid hS2
      obtain ⟨u0, _⟩ := cells4 hA
      obtain ⟨s0, s1, s2, s3, z0, z1, z2, z3⟩ := cells4 hS2.box.r
      clear hrow hB1 hw2 hS2 hA
      go_upto_region 6 with (go_at_call 35; refine (HBy.out _ (HS2.out.setS _).bl).mono ?_; rintro e w3 ⟨a2, c2, rfl, hrow2, hB3⟩)
      have hS3 := (HS2.out.setS ((R.serial : Int) + 1)).below hB3
      have HS3 := Lib.hid hS3
      clear u0 s0 s1 s2 s3 z0 z1 z2 z3 hrow2 hB3
      obtain ⟨q0, q1, q2, q3, f0, f1, f2, f3⟩ := cells4 hS3.box.d
      obtain ⟨p0, p1, p2, p3, g0, g1, g2, g3⟩ := cells4 hS3.box.od
      obtain ⟨r0, r1, r2, r3, k0, k1, k2, k3⟩ := cells4 hS3.box.or
      clear hS3
      go_wp2_with fail
      exact bodyPost_ret (v := .tuple #[.agg #[.int .i64 d.most, .slice a n c, .int .i64 d.left, .bool d.down], .agg #[.int .i64 0, .int .i64 0, .int .i64 0, .slice none 0 0], .int .i64 er]) (by simp [results, Tryz.results8, go_sem, q0, q1, q2, q3, p0, p1, p2, p3, r0, r1, r2, r3]) rfl (XwPost.bad er Hall2.out H0.out (HS3.out.told _ _ _ _ _ _ _ _))
end Go.Proofs.YtkacgmbinkoojaaGreatDoor
