/-
  PagesNumbers: the region of the commits that are none, part 0 (printed by wip/gen/n5part.py).
-/
import Derived.Test.YtbepcjajbcecnaaGreatDoorMNmB
namespace Go.Proofs.YtbepcjajbcecnaaGreatDoor
open Go.RowKit Go.Maps Go.MapKept
set_option linter.unusedSimpArgs false
set_option maxRecDepth 100000 in
set_option maxHeartbeats 60000000 in
theorem num_part0 (w8 : World) (B1 hb : Nat) (H8e : WEnv w8.drew) (H8h : Rd w8.drew (.slice (some ⟨hb, 0, none⟩) 5 5) (bcells hello5)) (Y0 : w8.drew.cell? ⟨B1, 0, none⟩ = some (.string ⟨#[99, 49]⟩)) (Y1 : w8.drew.cell? ⟨B1, 1, none⟩ = some (.slice (some ⟨hb, 0, none⟩) 5 5)) (Q : Exit → Act → World → Prop) (t0 t2 t3 t4 t5 t6 t7 t8 t9 t10 t11 t12 t13 t14 t15 t16 t17 t18 t19 t20 t21 t22 t23 t24 t25 t26 t27 t28 t29 t30 t31 t32 t33 t34 t35 t36 t37 t38 t39 t40 t41 t42 t43 t44 t45 t46 t47 t48 t49 t50 t51 t52 t53 t54 t55 t56 t57 t58 t59 t60 t61 t62 t63 t64 t65 t66 t67 t68 t69 t70 t71 t72 t73 t74 t75 t76 t77 t78 t79 t80 t81 t82 t83 t84 t85 t86 t87 t88 t89 t90 t91 t92 t93 t94 t95 t96 t97 t98 t99 t100 t101 t102 t103 t104 t105 t106 t107 t108 t109 t110 t111 t112 t113 t114 t115 t116 t117 t118 t119 t120 t121 t122 t123 t124 t125 t126 t127 t128 t129 t130 t131 t132 t133 t134 t135 t136 t137 t138 t139 t140 t141 t142 t143 t144 t145 t146 t147 t148 t149 t150 t151 t152 t153 t154 t155 t156 t157 t158 t159 t160 t161 t162 t163 t164 t165 t166 t167 t168 t169 t170 t171 t172 t173 t174 t175 t176 t177 t178 t179 t180 t181 t182 t183 t184 t185 t186 t187 t188 t189 t190 t191 t192 t193 t194 t195 t196 t197 t198 t199 t200 t201 t202 t203 t204 t205 t206 t207 t208 t209 t210 t211 t212 t213 t214 t215 t216 t217 t218 t219 t220 t221 t222 t223 t224 t225 t226 t227 t228 t229 t230 t231 t232 t233 t234 t235 t236 t237 t238 t239 t240 t241 t242 t243 t244 t245 t246 t247 t248 t249 t250 t251 t252 t253 t254 t255 t256 t257 t258 t259 t260 t261 t262 t263 t264 t265 t266 t267 t268 t269 t270 t271 t272 t273 t274 t275 t276 t277 t278 t279 t280 t281 t282 t283 t284 t285 t286 t287 t288 t289 t290 t291 t292 t293 t294 t295 t296 t297 t298 t299 t300 t301 t302 t303 : Value)
    (hP : ∀ c (a : Act) (i : Nat) v w', Q (.panic c) (a.put (some i) v) w' → Q (.panic c) a w') (hN : ∀ (s64 s65 s66 s67 s68 s69 s70 s71 s72 s73 s74 : Value) (v' : World), Below w8.drew.heap.size w8.drew v' → wpAnyH Tryz.prog .any (opsOf (regOf Tryz.f11 7)) Q (fun w' => w'.cell? ⟨B1, 0, none⟩ = some (.string ⟨#[99, 49]⟩) ∧ w'.cell? ⟨B1, 1, none⟩ = some (.slice (some ⟨hb, 0, none⟩) 5 5)) 78 (List.replicate 12 true ++ List.replicate 78 false).toArray { tmps := #[t0, .pointer (some ⟨B1, 0, none⟩), t2, t3, t4, t5, t6, t7, t8, t9, t10, t11, t12, t13, t14, t15, t16, t17, t18, t19, t20, t21, t22, t23, t24, t25, t26, t27, t28, t29, t30, t31, t32, t33, t34, t35, t36, t37, t38, t39, t40, t41, t42, t43, t44, t45, t46, t47, t48, t49, t50, t51, t52, t53, t54, t55, t56, t57, t58, t59, t60, t61, t62, t63, s64, s65, s66, s67, s68, s69, s70, s71, s72, s73, s74, .bool true, t76, t77, t78, t79, t80, t81, t82, t83, t84, t85, t86, t87, t88, t89, t90, t91, t92, t93, t94, t95, t96, t97, t98, t99, t100, t101, t102, t103, t104, t105, t106, t107, t108, t109, t110, t111, t112, t113, t114, t115, t116, t117, t118, t119, t120, t121, t122, t123, t124, t125, t126, t127, t128, t129, t130, t131, t132, t133, t134, t135, t136, t137, t138, t139, t140, t141, t142, t143, t144, t145, t146, t147, t148, t149, t150, t151, t152, t153, t154, t155, t156, t157, t158, t159, t160, t161, t162, t163, t164, t165, t166, t167, t168, t169, t170, t171, t172, t173, t174, t175, t176, t177, t178, t179, t180, t181, t182, t183, t184, t185, t186, t187, t188, t189, t190, t191, t192, t193, t194, t195, t196, t197, t198, t199, t200, t201, t202, t203, t204, t205, t206, t207, t208, t209, t210, t211, t212, t213, t214, t215, t216, t217, t218, t219, t220, t221, t222, t223, t224, t225, t226, t227, t228, t229, t230, t231, t232, t233, t234, t235, t236, t237, t238, t239, t240, t241, t242, t243, t244, t245, t246, t247, t248, t249, t250, t251, t252, t253, t254, t255, t256, t257, t258, t259, t260, t261, t262, t263, t264, t265, t266, t267, t268, t269, t270, t271, t272, t273, t274, t275, t276, t277, t278, t279, t280, t281, t282, t283, t284, t285, t286, t287, t288, t289, t290, t291, t292, t293, t294, t295, t296, t297, t298, t299, t300, t301, t302, t303], defers := [] } v') :
    (Code.region 7 (opsOf (regOf Tryz.f11 7)) true).wp Tryz.prog Q { tmps := #[t0, .pointer (some ⟨B1, 0, none⟩), t2, t3, t4, t5, t6, t7, t8, t9, t10, t11, t12, t13, t14, t15, t16, t17, t18, t19, t20, t21, t22, t23, t24, t25, t26, t27, t28, t29, t30, t31, t32, t33, t34, t35, t36, t37, t38, t39, t40, t41, t42, t43, t44, t45, t46, t47, t48, t49, t50, t51, t52, t53, t54, t55, t56, t57, t58, t59, t60, t61, t62, t63, t64, t65, t66, t67, t68, t69, t70, t71, t72, t73, t74, t75, t76, t77, t78, t79, t80, t81, t82, t83, t84, t85, t86, t87, t88, t89, t90, t91, t92, t93, t94, t95, t96, t97, t98, t99, t100, t101, t102, t103, t104, t105, t106, t107, t108, t109, t110, t111, t112, t113, t114, t115, t116, t117, t118, t119, t120, t121, t122, t123, t124, t125, t126, t127, t128, t129, t130, t131, t132, t133, t134, t135, t136, t137, t138, t139, t140, t141, t142, t143, t144, t145, t146, t147, t148, t149, t150, t151, t152, t153, t154, t155, t156, t157, t158, t159, t160, t161, t162, t163, t164, t165, t166, t167, t168, t169, t170, t171, t172, t173, t174, t175, t176, t177, t178, t179, t180, t181, t182, t183, t184, t185, t186, t187, t188, t189, t190, t191, t192, t193, t194, t195, t196, t197, t198, t199, t200, t201, t202, t203, t204, t205, t206, t207, t208, t209, t210, t211, t212, t213, t214, t215, t216, t217, t218, t219, t220, t221, t222, t223, t224, t225, t226, t227, t228, t229, t230, t231, t232, t233, t234, t235, t236, t237, t238, t239, t240, t241, t242, t243, t244, t245, t246, t247, t248, t249, t250, t251, t252, t253, t254, t255, t256, t257, t258, t259, t260, t261, t262, t263, t264, t265, t266, t267, t268, t269, t270, t271, t272, t273, t274, t275, t276, t277, t278, t279, t280, t281, t282, t283, t284, t285, t286, t287, t288, t289, t290, t291, t292, t293, t294, t295, t296, t297, t298, t299, t300, t301, t302, t303], defers := [] } w8 := by
  obtain ⟨OPS, hO⟩ : ∃ o, o = (opsOf (regOf Tryz.f11 7)) := ⟨_, rfl⟩
  rw [← hO] at hN ⊢
  simp only [regOf, opsOf, Tryz.f11, findR, Nat.beq, cond_true, cond_false, Option.getD_some, List.append] at hO
  subst hO
  have y0 := Y0
  have y1 := Y1
  have H8e := Lib.hid H8e
  have H8h := Lib.hid H8h
  have Y0 := Lib.hid Y0
  have Y1 := Lib.hid Y1
  refine wp_region_held_drew (S := fun w' => w'.cell? ⟨B1, 0, none⟩ = some (.string ⟨#[99, 49]⟩) ∧ w'.cell? ⟨B1, 1, none⟩ = some (.slice (some ⟨hb, 0, none⟩) 5 5)) (by kernel_rfl) ⟨y0, y1⟩ (fun hHeld => ?_)
  refine wpAnyH_ready (rs := [0]) (by kernel_rfl) (by simp) (AllReadyH.cons rfl (fun K hK => ?_) AllReadyH.nil)
  clear hHeld
  go_simp
  refine (none_nil _ H8e.out).mono ?_
  rintro e v1 ⟨rfl, hb⟩
  have K1 := Lib.hid hb
  clear hb
  have y0 := ((K1.out).cell (p := ⟨B1, 0, none⟩) (cell_lt Y0.out)).trans Y0.out
  have y1 := ((K1.out).cell (p := ⟨B1, 1, none⟩) (cell_lt Y1.out)).trans Y1.out
  refine hK.out _ _ ⟨y0, y1⟩ (fun hHeld => ?_)
  clear hK K
  (try simp only [Act.put, List.getElem_toArray, List.getElem_cons_zero, List.getElem_cons_succ, List.setIfInBounds_toArray, List.set_cons_zero, List.set_cons_succ])
  refine wpAnyH_take (i := 1) (v := ?_) rfl (by kernel_rfl) (by kernel_rfl) (by kernel_rfl) (fun _ _ _ h => hP _ _ _ _ _ h) (Or.inl ⟨by rfl, ?_⟩) (by assumption) ?_
  rotate_left
  · (intro wz hSz; (try dsimp only at hSz); go_simp) <;> with_reducible rfl
  simp only [Act.put, List.getElem_toArray, List.getElem_cons_zero, List.getElem_cons_succ, List.setIfInBounds_toArray, List.set_cons_zero, List.set_cons_succ]
  refine wpAnyH_take (i := 2) (v := ?_) rfl (by kernel_rfl) (by kernel_rfl) (by kernel_rfl) (fun _ _ _ h => hP _ _ _ _ _ h) (Or.inl ⟨by rfl, ?_⟩) (by assumption) ?_
  rotate_left
  · (intro wz hSz; (try dsimp only at hSz); go_simp) <;> with_reducible rfl
  simp only [Act.put, List.getElem_toArray, List.getElem_cons_zero, List.getElem_cons_succ, List.setIfInBounds_toArray, List.set_cons_zero, List.set_cons_succ]
  refine wpAnyH_ready (rs := [3]) (by kernel_rfl) (by simp) (AllReadyH.cons rfl (fun K hK => ?_) AllReadyH.nil)
  clear hHeld
  go_simp
  refine hK.out _ _ (by first | exact ⟨y0, y1⟩ | go_keep) (fun hHeld => ?_)
  clear hK K
  (try simp only [Act.put, List.getElem_toArray, List.getElem_cons_zero, List.getElem_cons_succ, List.setIfInBounds_toArray, List.set_cons_zero, List.set_cons_succ])
  refine wpAnyH_ready (rs := [4]) (by kernel_rfl) (by simp) (AllReadyH.cons rfl (fun K hK => ?_) AllReadyH.nil)
  clear hHeld
  go_simp
  have C := none_one v1 (H8e.out.below K1.out) nC1 (by decide) (.slice (some ⟨hb, 0, none⟩) 5 5) hello5 #[.string ⟨#[99, 49]⟩, .slice (some ⟨hb, 0, none⟩) 5 5] rfl (H8h.out.below K1.out) (by decide) 2 (by unfold isI64; decide) e2
  refine C.mono ?_
  clear C
  rintro e v2 ⟨rfl, hb⟩
  have K2 := Lib.hid ((K1.out).trans (hb.mono (K1.out).size))
  clear K1 hb
  have y0 := ((K2.out).cell (p := ⟨B1, 0, none⟩) (cell_lt Y0.out)).trans Y0.out
  have y1 := ((K2.out).cell (p := ⟨B1, 1, none⟩) (cell_lt Y1.out)).trans Y1.out
  refine hK.out _ _ ⟨y0, y1⟩ (fun hHeld => ?_)
  clear hK K
  (try simp only [Act.put, List.getElem_toArray, List.getElem_cons_zero, List.getElem_cons_succ, List.setIfInBounds_toArray, List.set_cons_zero, List.set_cons_succ])
  refine wpAnyH_take (i := 5) (v := ?_) rfl (by kernel_rfl) (by kernel_rfl) (by kernel_rfl) (fun _ _ _ h => hP _ _ _ _ _ h) (Or.inl ⟨by rfl, ?_⟩) (by assumption) ?_
  rotate_left
  · (intro wz hSz; (try dsimp only at hSz); go_simp) <;> with_reducible rfl
  simp only [Act.put, List.getElem_toArray, List.getElem_cons_zero, List.getElem_cons_succ, List.setIfInBounds_toArray, List.set_cons_zero, List.set_cons_succ]
  refine wpAnyH_take (i := 6) (v := ?_) rfl (by kernel_rfl) (by kernel_rfl) (by kernel_rfl) (fun _ _ _ h => hP _ _ _ _ _ h) (Or.inl ⟨by rfl, ?_⟩) (by assumption) ?_
  rotate_left
  · (intro wz hSz; (try dsimp only at hSz); go_simp) <;> with_reducible rfl
  simp only [Act.put, List.getElem_toArray, List.getElem_cons_zero, List.getElem_cons_succ, List.setIfInBounds_toArray, List.set_cons_zero, List.set_cons_succ]
  refine wpAnyH_ready (rs := [7]) (by kernel_rfl) (by simp) (AllReadyH.cons rfl (fun K hK => ?_) AllReadyH.nil)
  clear hHeld
  go_simp
  have k := K2
  refine (rwa _).mono ?_
  rintro e u3 ⟨ra, rc, rfl, hr, hb⟩
  have R3 := Lib.hid (And.intro hr (k.out.trans (hb.mono k.out.size)))
  clear K2 k hr hb
  have y0 := ((R3.out.2).cell (p := ⟨B1, 0, none⟩) (cell_lt Y0.out)).trans Y0.out
  have y1 := ((R3.out.2).cell (p := ⟨B1, 1, none⟩) (cell_lt Y1.out)).trans Y1.out
  refine hK.out _ _ ⟨y0, y1⟩ (fun hHeld => ?_)
  clear hK K
  (try simp only [Act.put, List.getElem_toArray, List.getElem_cons_zero, List.getElem_cons_succ, List.setIfInBounds_toArray, List.set_cons_zero, List.set_cons_succ])
  refine wpAnyH_ready (rs := [8]) (by kernel_rfl) (by simp) (AllReadyH.cons rfl (fun K hK => ?_) AllReadyH.nil)
  clear hHeld
  go_simp
  refine hK.out _ _ (by first | exact ⟨y0, y1⟩ | go_keep) (fun hHeld => ?_)
  clear hK K
  (try simp only [Act.put, List.getElem_toArray, List.getElem_cons_zero, List.getElem_cons_succ, List.setIfInBounds_toArray, List.set_cons_zero, List.set_cons_succ])
  refine wpAnyH_ready (rs := [9]) (by kernel_rfl) (by simp) (AllReadyH.cons rfl (fun K hK => ?_) AllReadyH.nil)
  clear hHeld
  go_simp
  have C := none_one u3 (H8e.out.below R3.out.2) nI2 (by decide) (.slice ra 15 rc) (rawB 2 1 nK 1 1 4) #[.string ⟨#[105, 50]⟩, .slice ra 15 rc] rfl R3.out.1 (by rw [rwa_len]; decide) 2 (by unfold isI64; decide) e3
  refine C.mono ?_
  clear C
  rintro e v3 ⟨rfl, hb⟩
  have K3 := Lib.hid ((R3.out.2).trans (hb.mono (R3.out.2).size))
  clear R3 hb
  have y0 := ((K3.out).cell (p := ⟨B1, 0, none⟩) (cell_lt Y0.out)).trans Y0.out
  have y1 := ((K3.out).cell (p := ⟨B1, 1, none⟩) (cell_lt Y1.out)).trans Y1.out
  refine hK.out _ _ ⟨y0, y1⟩ (fun hHeld => ?_)
  clear hK K
  (try simp only [Act.put, List.getElem_toArray, List.getElem_cons_zero, List.getElem_cons_succ, List.setIfInBounds_toArray, List.set_cons_zero, List.set_cons_succ])
  refine wpAnyH_take (i := 10) (v := ?_) rfl (by kernel_rfl) (by kernel_rfl) (by kernel_rfl) (fun _ _ _ h => hP _ _ _ _ _ h) (Or.inl ⟨by rfl, ?_⟩) (by assumption) ?_
  rotate_left
  · (intro wz hSz; (try dsimp only at hSz); go_simp) <;> with_reducible rfl
  simp only [Act.put, List.getElem_toArray, List.getElem_cons_zero, List.getElem_cons_succ, List.setIfInBounds_toArray, List.set_cons_zero, List.set_cons_succ]
  refine wpAnyH_take (i := 11) (v := ?_) rfl (by kernel_rfl) (by kernel_rfl) (by kernel_rfl) (fun _ _ _ h => hP _ _ _ _ _ h) (Or.inl ⟨by rfl, ?_⟩) (by assumption) ?_
  rotate_left
  · (intro wz hSz; (try dsimp only at hSz); go_simp) <;> with_reducible rfl
  simp only [Act.put, List.getElem_toArray, List.getElem_cons_zero, List.getElem_cons_succ, List.setIfInBounds_toArray, List.set_cons_zero, List.set_cons_succ]
  refine wpAnyH_at (f' := 78) (l' := (List.replicate 12 true ++ List.replicate 78 false).toArray) (by kernel_rfl) (by kernel_rfl) ?_
  exact hN _ _ _ _ _ _ _ _ _ _ _ _ K3.out
end Go.Proofs.YtbepcjajbcecnaaGreatDoor

/-
  PagesNumbers: the region of the commits that are none, part 1 (printed by wip/gen/n5part.py).
-/
namespace Go.Proofs.YtbepcjajbcecnaaGreatDoor
open Go.RowKit Go.Maps Go.MapKept
set_option linter.unusedSimpArgs false
set_option maxRecDepth 100000 in
set_option maxHeartbeats 60000000 in
theorem num_part1 (g v3 : World) (B1 hb : Nat) (H8e : WEnv g) (H8h : Rd g (.slice (some ⟨hb, 0, none⟩) 5 5) (bcells hello5)) (Y0 : g.cell? ⟨B1, 0, none⟩ = some (.string ⟨#[99, 49]⟩)) (Y1 : g.cell? ⟨B1, 1, none⟩ = some (.slice (some ⟨hb, 0, none⟩) 5 5)) (K3 : Below g.heap.size g v3) (Q : Exit → Act → World → Prop) (t0 t2 t3 t4 t5 t6 t7 t8 t9 t10 t11 t12 t13 t14 t15 t16 t17 t18 t19 t20 t21 t22 t23 t24 t25 t26 t27 t28 t29 t30 t31 t32 t33 t34 t35 t36 t37 t38 t39 t40 t41 t42 t43 t44 t45 t46 t47 t48 t49 t50 t51 t52 t53 t54 t55 t56 t57 t58 t59 t60 t61 t62 t63 t64 t65 t66 t67 t68 t69 t70 t71 t72 t73 t74 t76 t77 t78 t79 t80 t81 t82 t83 t84 t85 t86 t87 t88 t89 t90 t91 t92 t93 t94 t95 t96 t97 t98 t99 t100 t101 t102 t103 t104 t105 t106 t107 t108 t109 t110 t111 t112 t113 t114 t115 t116 t117 t118 t119 t120 t121 t122 t123 t124 t125 t126 t127 t128 t129 t130 t131 t132 t133 t134 t135 t136 t137 t138 t139 t140 t141 t142 t143 t144 t145 t146 t147 t148 t149 t150 t151 t152 t153 t154 t155 t156 t157 t158 t159 t160 t161 t162 t163 t164 t165 t166 t167 t168 t169 t170 t171 t172 t173 t174 t175 t176 t177 t178 t179 t180 t181 t182 t183 t184 t185 t186 t187 t188 t189 t190 t191 t192 t193 t194 t195 t196 t197 t198 t199 t200 t201 t202 t203 t204 t205 t206 t207 t208 t209 t210 t211 t212 t213 t214 t215 t216 t217 t218 t219 t220 t221 t222 t223 t224 t225 t226 t227 t228 t229 t230 t231 t232 t233 t234 t235 t236 t237 t238 t239 t240 t241 t242 t243 t244 t245 t246 t247 t248 t249 t250 t251 t252 t253 t254 t255 t256 t257 t258 t259 t260 t261 t262 t263 t264 t265 t266 t267 t268 t269 t270 t271 t272 t273 t274 t275 t276 t277 t278 t279 t280 t281 t282 t283 t284 t285 t286 t287 t288 t289 t290 t291 t292 t293 t294 t295 t296 t297 t298 t299 t300 t301 t302 t303 : Value)
    (hP : ∀ c (a : Act) (i : Nat) v w', Q (.panic c) (a.put (some i) v) w' → Q (.panic c) a w') (hN : ∀ (s76 s77 s78 s79 s80 s81 s82 s83 s84 s85 s86 : Value) (v' : World), Below g.heap.size g v' → wpAnyH Tryz.prog .any (opsOf (regOf Tryz.f11 7)) Q (fun w' => w'.cell? ⟨B1, 0, none⟩ = some (.string ⟨#[99, 49]⟩) ∧ w'.cell? ⟨B1, 1, none⟩ = some (.slice (some ⟨hb, 0, none⟩) 5 5)) 66 (List.replicate 24 true ++ List.replicate 66 false).toArray { tmps := #[t0, .pointer (some ⟨B1, 0, none⟩), t2, t3, t4, t5, t6, t7, t8, t9, t10, t11, t12, t13, t14, t15, t16, t17, t18, t19, t20, t21, t22, t23, t24, t25, t26, t27, t28, t29, t30, t31, t32, t33, t34, t35, t36, t37, t38, t39, t40, t41, t42, t43, t44, t45, t46, t47, t48, t49, t50, t51, t52, t53, t54, t55, t56, t57, t58, t59, t60, t61, t62, t63, t64, t65, t66, t67, t68, t69, t70, t71, t72, t73, t74, .bool true, s76, s77, s78, s79, s80, s81, s82, s83, s84, s85, s86, .bool true, t88, t89, t90, t91, t92, t93, t94, t95, t96, t97, t98, t99, t100, t101, t102, t103, t104, t105, t106, t107, t108, t109, t110, t111, t112, t113, t114, t115, t116, t117, t118, t119, t120, t121, t122, t123, t124, t125, t126, t127, t128, t129, t130, t131, t132, t133, t134, t135, t136, t137, t138, t139, t140, t141, t142, t143, t144, t145, t146, t147, t148, t149, t150, t151, t152, t153, t154, t155, t156, t157, t158, t159, t160, t161, t162, t163, t164, t165, t166, t167, t168, t169, t170, t171, t172, t173, t174, t175, t176, t177, t178, t179, t180, t181, t182, t183, t184, t185, t186, t187, t188, t189, t190, t191, t192, t193, t194, t195, t196, t197, t198, t199, t200, t201, t202, t203, t204, t205, t206, t207, t208, t209, t210, t211, t212, t213, t214, t215, t216, t217, t218, t219, t220, t221, t222, t223, t224, t225, t226, t227, t228, t229, t230, t231, t232, t233, t234, t235, t236, t237, t238, t239, t240, t241, t242, t243, t244, t245, t246, t247, t248, t249, t250, t251, t252, t253, t254, t255, t256, t257, t258, t259, t260, t261, t262, t263, t264, t265, t266, t267, t268, t269, t270, t271, t272, t273, t274, t275, t276, t277, t278, t279, t280, t281, t282, t283, t284, t285, t286, t287, t288, t289, t290, t291, t292, t293, t294, t295, t296, t297, t298, t299, t300, t301, t302, t303], defers := [] } v') :
    wpAnyH Tryz.prog .any (opsOf (regOf Tryz.f11 7)) Q (fun w' => w'.cell? ⟨B1, 0, none⟩ = some (.string ⟨#[99, 49]⟩) ∧ w'.cell? ⟨B1, 1, none⟩ = some (.slice (some ⟨hb, 0, none⟩) 5 5)) 78 (List.replicate 12 true ++ List.replicate 78 false).toArray { tmps := #[t0, .pointer (some ⟨B1, 0, none⟩), t2, t3, t4, t5, t6, t7, t8, t9, t10, t11, t12, t13, t14, t15, t16, t17, t18, t19, t20, t21, t22, t23, t24, t25, t26, t27, t28, t29, t30, t31, t32, t33, t34, t35, t36, t37, t38, t39, t40, t41, t42, t43, t44, t45, t46, t47, t48, t49, t50, t51, t52, t53, t54, t55, t56, t57, t58, t59, t60, t61, t62, t63, t64, t65, t66, t67, t68, t69, t70, t71, t72, t73, t74, .bool true, t76, t77, t78, t79, t80, t81, t82, t83, t84, t85, t86, t87, t88, t89, t90, t91, t92, t93, t94, t95, t96, t97, t98, t99, t100, t101, t102, t103, t104, t105, t106, t107, t108, t109, t110, t111, t112, t113, t114, t115, t116, t117, t118, t119, t120, t121, t122, t123, t124, t125, t126, t127, t128, t129, t130, t131, t132, t133, t134, t135, t136, t137, t138, t139, t140, t141, t142, t143, t144, t145, t146, t147, t148, t149, t150, t151, t152, t153, t154, t155, t156, t157, t158, t159, t160, t161, t162, t163, t164, t165, t166, t167, t168, t169, t170, t171, t172, t173, t174, t175, t176, t177, t178, t179, t180, t181, t182, t183, t184, t185, t186, t187, t188, t189, t190, t191, t192, t193, t194, t195, t196, t197, t198, t199, t200, t201, t202, t203, t204, t205, t206, t207, t208, t209, t210, t211, t212, t213, t214, t215, t216, t217, t218, t219, t220, t221, t222, t223, t224, t225, t226, t227, t228, t229, t230, t231, t232, t233, t234, t235, t236, t237, t238, t239, t240, t241, t242, t243, t244, t245, t246, t247, t248, t249, t250, t251, t252, t253, t254, t255, t256, t257, t258, t259, t260, t261, t262, t263, t264, t265, t266, t267, t268, t269, t270, t271, t272, t273, t274, t275, t276, t277, t278, t279, t280, t281, t282, t283, t284, t285, t286, t287, t288, t289, t290, t291, t292, t293, t294, t295, t296, t297, t298, t299, t300, t301, t302, t303], defers := [] } v3 := by
  obtain ⟨OPS, hO⟩ : ∃ o, o = (opsOf (regOf Tryz.f11 7)) := ⟨_, rfl⟩
  rw [← hO] at hN ⊢
  simp only [regOf, opsOf, Tryz.f11, findR, Nat.beq, cond_true, cond_false, Option.getD_some, List.append] at hO
  subst hO
  have H8e := Lib.hid H8e
  have H8h := Lib.hid H8h
  have Y0 := Lib.hid Y0
  have Y1 := Lib.hid Y1
  have K3 := Lib.hid K3
  have y0 := ((K3.out).cell (p := ⟨B1, 0, none⟩) (cell_lt Y0.out)).trans Y0.out
  have y1 := ((K3.out).cell (p := ⟨B1, 1, none⟩) (cell_lt Y1.out)).trans Y1.out
  have hHeld := And.intro y0 y1
  refine wpAnyH_take (i := 13) (v := ?_) rfl (by kernel_rfl) (by kernel_rfl) (by kernel_rfl) (fun _ _ _ h => hP _ _ _ _ _ h) (Or.inl ⟨by rfl, ?_⟩) (by assumption) ?_
  rotate_left
  · (intro wz hSz; (try dsimp only at hSz); go_simp) <;> with_reducible rfl
  simp only [Act.put, List.getElem_toArray, List.getElem_cons_zero, List.getElem_cons_succ, List.setIfInBounds_toArray, List.set_cons_zero, List.set_cons_succ]
  refine wpAnyH_ready (rs := [12]) (by kernel_rfl) (by simp) (AllReadyH.cons rfl (fun K hK => ?_) AllReadyH.nil)
  clear hHeld
  go_simp
  have k := K3
  refine (rwb _).mono ?_
  rintro e u4 ⟨ra, rc, rfl, hr, hb⟩
  have R4 := Lib.hid (And.intro hr (k.out.trans (hb.mono k.out.size)))
  clear K3 k hr hb
  have y0 := ((R4.out.2).cell (p := ⟨B1, 0, none⟩) (cell_lt Y0.out)).trans Y0.out
  have y1 := ((R4.out.2).cell (p := ⟨B1, 1, none⟩) (cell_lt Y1.out)).trans Y1.out
  refine hK.out _ _ ⟨y0, y1⟩ (fun hHeld => ?_)
  clear hK K
  (try simp only [Act.put, List.getElem_toArray, List.getElem_cons_zero, List.getElem_cons_succ, List.setIfInBounds_toArray, List.set_cons_zero, List.set_cons_succ])
  refine wpAnyH_ready (rs := [14]) (by kernel_rfl) (by simp) (AllReadyH.cons rfl (fun K hK => ?_) AllReadyH.nil)
  clear hHeld
  go_simp
  refine hK.out _ _ (by first | exact ⟨y0, y1⟩ | go_keep) (fun hHeld => ?_)
  clear hK K
  (try simp only [Act.put, List.getElem_toArray, List.getElem_cons_zero, List.getElem_cons_succ, List.setIfInBounds_toArray, List.set_cons_zero, List.set_cons_succ])
  refine wpAnyH_ready (rs := [15]) (by kernel_rfl) (by simp) (AllReadyH.cons rfl (fun K hK => ?_) AllReadyH.nil)
  clear hHeld
  go_simp
  have C := none_raw u4 (H8e.out.below R4.out.2) ra 15 rc hb (rawB 2 1 nK 1 1 5) R4.out.1 (H8h.out.below R4.out.2) (by rw [rwb_len]; decide) 2 (by unfold isI64; decide) e4
  refine C.mono ?_
  clear C
  rintro e v4 ⟨rfl, hb⟩
  have K4 := Lib.hid ((R4.out.2).trans (hb.mono (R4.out.2).size))
  clear R4 hb
  have y0 := ((K4.out).cell (p := ⟨B1, 0, none⟩) (cell_lt Y0.out)).trans Y0.out
  have y1 := ((K4.out).cell (p := ⟨B1, 1, none⟩) (cell_lt Y1.out)).trans Y1.out
  refine hK.out _ _ ⟨y0, y1⟩ (fun hHeld => ?_)
  clear hK K
  (try simp only [Act.put, List.getElem_toArray, List.getElem_cons_zero, List.getElem_cons_succ, List.setIfInBounds_toArray, List.set_cons_zero, List.set_cons_succ])
  refine wpAnyH_take (i := 16) (v := ?_) rfl (by kernel_rfl) (by kernel_rfl) (by kernel_rfl) (fun _ _ _ h => hP _ _ _ _ _ h) (Or.inl ⟨by rfl, ?_⟩) (by assumption) ?_
  rotate_left
  · (intro wz hSz; (try dsimp only at hSz); go_simp) <;> with_reducible rfl
  simp only [Act.put, List.getElem_toArray, List.getElem_cons_zero, List.getElem_cons_succ, List.setIfInBounds_toArray, List.set_cons_zero, List.set_cons_succ]
  refine wpAnyH_take (i := 17) (v := ?_) rfl (by kernel_rfl) (by kernel_rfl) (by kernel_rfl) (fun _ _ _ h => hP _ _ _ _ _ h) (Or.inl ⟨by rfl, ?_⟩) (by assumption) ?_
  rotate_left
  · (intro wz hSz; (try dsimp only at hSz); go_simp) <;> with_reducible rfl
  simp only [Act.put, List.getElem_toArray, List.getElem_cons_zero, List.getElem_cons_succ, List.setIfInBounds_toArray, List.set_cons_zero, List.set_cons_succ]
  refine wpAnyH_take (i := 19) (v := ?_) rfl (by kernel_rfl) (by kernel_rfl) (by kernel_rfl) (fun _ _ _ h => hP _ _ _ _ _ h) (Or.inl ⟨by rfl, ?_⟩) (by assumption) ?_
  rotate_left
  · (intro wz hSz; (try dsimp only at hSz); go_simp) <;> with_reducible rfl
  simp only [Act.put, List.getElem_toArray, List.getElem_cons_zero, List.getElem_cons_succ, List.setIfInBounds_toArray, List.set_cons_zero, List.set_cons_succ]
  refine wpAnyH_ready (rs := [18]) (by kernel_rfl) (by simp) (AllReadyH.cons rfl (fun K hK => ?_) AllReadyH.nil)
  clear hHeld
  go_simp
  have k := K4
  refine (rwc _).mono ?_
  rintro e u5 ⟨ra, rc, rfl, hr, hb⟩
  have R5 := Lib.hid (And.intro hr (k.out.trans (hb.mono k.out.size)))
  clear K4 k hr hb
  have y0 := ((R5.out.2).cell (p := ⟨B1, 0, none⟩) (cell_lt Y0.out)).trans Y0.out
  have y1 := ((R5.out.2).cell (p := ⟨B1, 1, none⟩) (cell_lt Y1.out)).trans Y1.out
  refine hK.out _ _ ⟨y0, y1⟩ (fun hHeld => ?_)
  clear hK K
  (try simp only [Act.put, List.getElem_toArray, List.getElem_cons_zero, List.getElem_cons_succ, List.setIfInBounds_toArray, List.set_cons_zero, List.set_cons_succ])
  refine wpAnyH_ready (rs := [20]) (by kernel_rfl) (by simp) (AllReadyH.cons rfl (fun K hK => ?_) AllReadyH.nil)
  clear hHeld
  go_simp
  refine hK.out _ _ (by first | exact ⟨y0, y1⟩ | go_keep) (fun hHeld => ?_)
  clear hK K
  (try simp only [Act.put, List.getElem_toArray, List.getElem_cons_zero, List.getElem_cons_succ, List.setIfInBounds_toArray, List.set_cons_zero, List.set_cons_succ])
  refine wpAnyH_ready (rs := [21]) (by kernel_rfl) (by simp) (AllReadyH.cons rfl (fun K hK => ?_) AllReadyH.nil)
  clear hHeld
  go_simp
  have C := none_raw u5 (H8e.out.below R5.out.2) ra 15 rc hb (rawB 2 1 nK 1 6 0) R5.out.1 (H8h.out.below R5.out.2) (by rw [rwc_len]; decide) 2 (by unfold isI64; decide) e5
  refine C.mono ?_
  clear C
  rintro e v5 ⟨rfl, hb⟩
  have K5 := Lib.hid ((R5.out.2).trans (hb.mono (R5.out.2).size))
  clear R5 hb
  have y0 := ((K5.out).cell (p := ⟨B1, 0, none⟩) (cell_lt Y0.out)).trans Y0.out
  have y1 := ((K5.out).cell (p := ⟨B1, 1, none⟩) (cell_lt Y1.out)).trans Y1.out
  refine hK.out _ _ ⟨y0, y1⟩ (fun hHeld => ?_)
  clear hK K
  (try simp only [Act.put, List.getElem_toArray, List.getElem_cons_zero, List.getElem_cons_succ, List.setIfInBounds_toArray, List.set_cons_zero, List.set_cons_succ])
  refine wpAnyH_take (i := 22) (v := ?_) rfl (by kernel_rfl) (by kernel_rfl) (by kernel_rfl) (fun _ _ _ h => hP _ _ _ _ _ h) (Or.inl ⟨by rfl, ?_⟩) (by assumption) ?_
  rotate_left
  · (intro wz hSz; (try dsimp only at hSz); go_simp) <;> with_reducible rfl
  simp only [Act.put, List.getElem_toArray, List.getElem_cons_zero, List.getElem_cons_succ, List.setIfInBounds_toArray, List.set_cons_zero, List.set_cons_succ]
  refine wpAnyH_take (i := 23) (v := ?_) rfl (by kernel_rfl) (by kernel_rfl) (by kernel_rfl) (fun _ _ _ h => hP _ _ _ _ _ h) (Or.inl ⟨by rfl, ?_⟩) (by assumption) ?_
  rotate_left
  · (intro wz hSz; (try dsimp only at hSz); go_simp) <;> with_reducible rfl
  simp only [Act.put, List.getElem_toArray, List.getElem_cons_zero, List.getElem_cons_succ, List.setIfInBounds_toArray, List.set_cons_zero, List.set_cons_succ]
  refine wpAnyH_at (f' := 66) (l' := (List.replicate 24 true ++ List.replicate 66 false).toArray) (by kernel_rfl) (by kernel_rfl) ?_
  exact hN _ _ _ _ _ _ _ _ _ _ _ _ K5.out
end Go.Proofs.YtbepcjajbcecnaaGreatDoor
