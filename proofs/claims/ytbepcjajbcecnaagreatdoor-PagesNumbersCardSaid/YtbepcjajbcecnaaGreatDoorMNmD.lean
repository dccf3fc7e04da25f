/-
  PagesNumbers: the region of the commits that are none, part 2 (printed by wip/gen/n5part.py).
-/
import Derived.Test.YtbepcjajbcecnaaGreatDoorMNmB
namespace Go.Proofs.YtbepcjajbcecnaaGreatDoor
open Go.RowKit Go.Maps Go.MapKept
set_option linter.unusedSimpArgs false
set_option maxRecDepth 100000 in
set_option maxHeartbeats 60000000 in
theorem num_part2 (g v5 : World) (B1 hb : Nat) (H8e : WEnv g) (H8h : Rd g (.slice (some ⟨hb, 0, none⟩) 5 5) (bcells hello5)) (Y0 : g.cell? ⟨B1, 0, none⟩ = some (.string ⟨#[99, 49]⟩)) (Y1 : g.cell? ⟨B1, 1, none⟩ = some (.slice (some ⟨hb, 0, none⟩) 5 5)) (K5 : Below g.heap.size g v5) (Q : Exit → Act → World → Prop) (t0 t2 t3 t4 t5 t6 t7 t8 t9 t10 t11 t12 t13 t14 t15 t16 t17 t18 t19 t20 t21 t22 t23 t24 t25 t26 t27 t28 t29 t30 t31 t32 t33 t34 t35 t36 t37 t38 t39 t40 t41 t42 t43 t44 t45 t46 t47 t48 t49 t50 t51 t52 t53 t54 t55 t56 t57 t58 t59 t60 t61 t62 t63 t64 t65 t66 t67 t68 t69 t70 t71 t72 t73 t74 t75 t76 t77 t78 t79 t80 t81 t82 t83 t84 t85 t86 t88 t89 t90 t91 t92 t93 t94 t95 t96 t97 t98 t99 t100 t101 t102 t103 t104 t105 t106 t107 t108 t109 t110 t111 t112 t113 t114 t115 t116 t117 t118 t119 t120 t121 t122 t123 t124 t125 t126 t127 t128 t129 t130 t131 t132 t133 t134 t135 t136 t137 t138 t139 t140 t141 t142 t143 t144 t145 t146 t147 t148 t149 t150 t151 t152 t153 t154 t155 t156 t157 t158 t159 t160 t161 t162 t163 t164 t165 t166 t167 t168 t169 t170 t171 t172 t173 t174 t175 t176 t177 t178 t179 t180 t181 t182 t183 t184 t185 t186 t187 t188 t189 t190 t191 t192 t193 t194 t195 t196 t197 t198 t199 t200 t201 t202 t203 t204 t205 t206 t207 t208 t209 t210 t211 t212 t213 t214 t215 t216 t217 t218 t219 t220 t221 t222 t223 t224 t225 t226 t227 t228 t229 t230 t231 t232 t233 t234 t235 t236 t237 t238 t239 t240 t241 t242 t243 t244 t245 t246 t247 t248 t249 t250 t251 t252 t253 t254 t255 t256 t257 t258 t259 t260 t261 t262 t263 t264 t265 t266 t267 t268 t269 t270 t271 t272 t273 t274 t275 t276 t277 t278 t279 t280 t281 t282 t283 t284 t285 t286 t287 t288 t289 t290 t291 t292 t293 t294 t295 t296 t297 t298 t299 t300 t301 t302 t303 : Value)
    (hP : ∀ c (a : Act) (i : Nat) v w', Q (.panic c) (a.put (some i) v) w' → Q (.panic c) a w') (hN : ∀ (s88 s89 s90 s91 s92 s93 s94 s95 s96 s97 s98 : Value) (v' : World), Below g.heap.size g v' → wpAnyH Tryz.prog .any (opsOf (regOf Tryz.f11 7)) Q (fun w' => w'.cell? ⟨B1, 0, none⟩ = some (.string ⟨#[99, 49]⟩) ∧ w'.cell? ⟨B1, 1, none⟩ = some (.slice (some ⟨hb, 0, none⟩) 5 5)) 54 (List.replicate 36 true ++ List.replicate 54 false).toArray { tmps := #[t0, .pointer (some ⟨B1, 0, none⟩), t2, t3, t4, t5, t6, t7, t8, t9, t10, t11, t12, t13, t14, t15, t16, t17, t18, t19, t20, t21, t22, t23, t24, t25, t26, t27, t28, t29, t30, t31, t32, t33, t34, t35, t36, t37, t38, t39, t40, t41, t42, t43, t44, t45, t46, t47, t48, t49, t50, t51, t52, t53, t54, t55, t56, t57, t58, t59, t60, t61, t62, t63, t64, t65, t66, t67, t68, t69, t70, t71, t72, t73, t74, t75, t76, t77, t78, t79, t80, t81, t82, t83, t84, t85, t86, .bool true, s88, s89, s90, s91, s92, s93, s94, s95, s96, s97, s98, .bool true, t100, t101, t102, t103, t104, t105, t106, t107, t108, t109, t110, t111, t112, t113, t114, t115, t116, t117, t118, t119, t120, t121, t122, t123, t124, t125, t126, t127, t128, t129, t130, t131, t132, t133, t134, t135, t136, t137, t138, t139, t140, t141, t142, t143, t144, t145, t146, t147, t148, t149, t150, t151, t152, t153, t154, t155, t156, t157, t158, t159, t160, t161, t162, t163, t164, t165, t166, t167, t168, t169, t170, t171, t172, t173, t174, t175, t176, t177, t178, t179, t180, t181, t182, t183, t184, t185, t186, t187, t188, t189, t190, t191, t192, t193, t194, t195, t196, t197, t198, t199, t200, t201, t202, t203, t204, t205, t206, t207, t208, t209, t210, t211, t212, t213, t214, t215, t216, t217, t218, t219, t220, t221, t222, t223, t224, t225, t226, t227, t228, t229, t230, t231, t232, t233, t234, t235, t236, t237, t238, t239, t240, t241, t242, t243, t244, t245, t246, t247, t248, t249, t250, t251, t252, t253, t254, t255, t256, t257, t258, t259, t260, t261, t262, t263, t264, t265, t266, t267, t268, t269, t270, t271, t272, t273, t274, t275, t276, t277, t278, t279, t280, t281, t282, t283, t284, t285, t286, t287, t288, t289, t290, t291, t292, t293, t294, t295, t296, t297, t298, t299, t300, t301, t302, t303], defers := [] } v') :
    wpAnyH Tryz.prog .any (opsOf (regOf Tryz.f11 7)) Q (fun w' => w'.cell? ⟨B1, 0, none⟩ = some (.string ⟨#[99, 49]⟩) ∧ w'.cell? ⟨B1, 1, none⟩ = some (.slice (some ⟨hb, 0, none⟩) 5 5)) 66 (List.replicate 24 true ++ List.replicate 66 false).toArray { tmps := #[t0, .pointer (some ⟨B1, 0, none⟩), t2, t3, t4, t5, t6, t7, t8, t9, t10, t11, t12, t13, t14, t15, t16, t17, t18, t19, t20, t21, t22, t23, t24, t25, t26, t27, t28, t29, t30, t31, t32, t33, t34, t35, t36, t37, t38, t39, t40, t41, t42, t43, t44, t45, t46, t47, t48, t49, t50, t51, t52, t53, t54, t55, t56, t57, t58, t59, t60, t61, t62, t63, t64, t65, t66, t67, t68, t69, t70, t71, t72, t73, t74, t75, t76, t77, t78, t79, t80, t81, t82, t83, t84, t85, t86, .bool true, t88, t89, t90, t91, t92, t93, t94, t95, t96, t97, t98, t99, t100, t101, t102, t103, t104, t105, t106, t107, t108, t109, t110, t111, t112, t113, t114, t115, t116, t117, t118, t119, t120, t121, t122, t123, t124, t125, t126, t127, t128, t129, t130, t131, t132, t133, t134, t135, t136, t137, t138, t139, t140, t141, t142, t143, t144, t145, t146, t147, t148, t149, t150, t151, t152, t153, t154, t155, t156, t157, t158, t159, t160, t161, t162, t163, t164, t165, t166, t167, t168, t169, t170, t171, t172, t173, t174, t175, t176, t177, t178, t179, t180, t181, t182, t183, t184, t185, t186, t187, t188, t189, t190, t191, t192, t193, t194, t195, t196, t197, t198, t199, t200, t201, t202, t203, t204, t205, t206, t207, t208, t209, t210, t211, t212, t213, t214, t215, t216, t217, t218, t219, t220, t221, t222, t223, t224, t225, t226, t227, t228, t229, t230, t231, t232, t233, t234, t235, t236, t237, t238, t239, t240, t241, t242, t243, t244, t245, t246, t247, t248, t249, t250, t251, t252, t253, t254, t255, t256, t257, t258, t259, t260, t261, t262, t263, t264, t265, t266, t267, t268, t269, t270, t271, t272, t273, t274, t275, t276, t277, t278, t279, t280, t281, t282, t283, t284, t285, t286, t287, t288, t289, t290, t291, t292, t293, t294, t295, t296, t297, t298, t299, t300, t301, t302, t303], defers := [] } v5 := by
  obtain ⟨OPS, hO⟩ : ∃ o, o = (opsOf (regOf Tryz.f11 7)) := ⟨_, rfl⟩
  rw [← hO] at hN ⊢
  simp only [regOf, opsOf, Tryz.f11, findR, Nat.beq, cond_true, cond_false, Option.getD_some, List.append] at hO
  subst hO
  have H8e := Lib.hid H8e
  have H8h := Lib.hid H8h
  have Y0 := Lib.hid Y0
  have Y1 := Lib.hid Y1
  have K5 := Lib.hid K5
  have y0 := ((K5.out).cell (p := ⟨B1, 0, none⟩) (cell_lt Y0.out)).trans Y0.out
  have y1 := ((K5.out).cell (p := ⟨B1, 1, none⟩) (cell_lt Y1.out)).trans Y1.out
  have hHeld := And.intro y0 y1
  refine wpAnyH_take (i := 25) (v := ?_) rfl (by kernel_rfl) (by kernel_rfl) (by kernel_rfl) (fun _ _ _ h => hP _ _ _ _ _ h) (Or.inl ⟨by rfl, ?_⟩) (by assumption) ?_
  rotate_left
  · (intro wz hSz; (try dsimp only at hSz); go_simp) <;> with_reducible rfl
  simp only [Act.put, List.getElem_toArray, List.getElem_cons_zero, List.getElem_cons_succ, List.setIfInBounds_toArray, List.set_cons_zero, List.set_cons_succ]
  refine wpAnyH_ready (rs := [24]) (by kernel_rfl) (by simp) (AllReadyH.cons rfl (fun K hK => ?_) AllReadyH.nil)
  clear hHeld
  go_simp
  have k := K5
  refine (rwd _).mono ?_
  rintro e u6 ⟨ra, rc, rfl, hr, hb⟩
  have R6 := Lib.hid (And.intro hr (k.out.trans (hb.mono k.out.size)))
  clear K5 k hr hb
  have y0 := ((R6.out.2).cell (p := ⟨B1, 0, none⟩) (cell_lt Y0.out)).trans Y0.out
  have y1 := ((R6.out.2).cell (p := ⟨B1, 1, none⟩) (cell_lt Y1.out)).trans Y1.out
  refine hK.out _ _ ⟨y0, y1⟩ (fun hHeld => ?_)
  clear hK K
  (try simp only [Act.put, List.getElem_toArray, List.getElem_cons_zero, List.getElem_cons_succ, List.setIfInBounds_toArray, List.set_cons_zero, List.set_cons_succ])
  refine wpAnyH_ready (rs := [26]) (by kernel_rfl) (by simp) (AllReadyH.cons rfl (fun K hK => ?_) AllReadyH.nil)
  clear hHeld
  go_simp
  refine hK.out _ _ (by first | exact ⟨y0, y1⟩ | go_keep) (fun hHeld => ?_)
  clear hK K
  (try simp only [Act.put, List.getElem_toArray, List.getElem_cons_zero, List.getElem_cons_succ, List.setIfInBounds_toArray, List.set_cons_zero, List.set_cons_succ])
  refine wpAnyH_ready (rs := [27]) (by kernel_rfl) (by simp) (AllReadyH.cons rfl (fun K hK => ?_) AllReadyH.nil)
  clear hHeld
  go_simp
  have C := none_raw u6 (H8e.out.below R6.out.2) ra 15 rc hb (rawB 3 1 nK 1 1 4) R6.out.1 (H8h.out.below R6.out.2) (by rw [rwd_len]; decide) 2 (by unfold isI64; decide) e6
  refine C.mono ?_
  clear C
  rintro e v6 ⟨rfl, hb⟩
  have K6 := Lib.hid ((R6.out.2).trans (hb.mono (R6.out.2).size))
  clear R6 hb
  have y0 := ((K6.out).cell (p := ⟨B1, 0, none⟩) (cell_lt Y0.out)).trans Y0.out
  have y1 := ((K6.out).cell (p := ⟨B1, 1, none⟩) (cell_lt Y1.out)).trans Y1.out
  refine hK.out _ _ ⟨y0, y1⟩ (fun hHeld => ?_)
  clear hK K
  (try simp only [Act.put, List.getElem_toArray, List.getElem_cons_zero, List.getElem_cons_succ, List.setIfInBounds_toArray, List.set_cons_zero, List.set_cons_succ])
  refine wpAnyH_take (i := 28) (v := ?_) rfl (by kernel_rfl) (by kernel_rfl) (by kernel_rfl) (fun _ _ _ h => hP _ _ _ _ _ h) (Or.inl ⟨by rfl, ?_⟩) (by assumption) ?_
  rotate_left
  · (intro wz hSz; (try dsimp only at hSz); go_simp) <;> with_reducible rfl
  simp only [Act.put, List.getElem_toArray, List.getElem_cons_zero, List.getElem_cons_succ, List.setIfInBounds_toArray, List.set_cons_zero, List.set_cons_succ]
  refine wpAnyH_take (i := 29) (v := ?_) rfl (by kernel_rfl) (by kernel_rfl) (by kernel_rfl) (fun _ _ _ h => hP _ _ _ _ _ h) (Or.inl ⟨by rfl, ?_⟩) (by assumption) ?_
  rotate_left
  · (intro wz hSz; (try dsimp only at hSz); go_simp) <;> with_reducible rfl
  simp only [Act.put, List.getElem_toArray, List.getElem_cons_zero, List.getElem_cons_succ, List.setIfInBounds_toArray, List.set_cons_zero, List.set_cons_succ]
  refine wpAnyH_take (i := 31) (v := ?_) rfl (by kernel_rfl) (by kernel_rfl) (by kernel_rfl) (fun _ _ _ h => hP _ _ _ _ _ h) (Or.inl ⟨by rfl, ?_⟩) (by assumption) ?_
  rotate_left
  · (intro wz hSz; (try dsimp only at hSz); go_simp) <;> with_reducible rfl
  simp only [Act.put, List.getElem_toArray, List.getElem_cons_zero, List.getElem_cons_succ, List.setIfInBounds_toArray, List.set_cons_zero, List.set_cons_succ]
  refine wpAnyH_ready (rs := [30]) (by kernel_rfl) (by simp) (AllReadyH.cons rfl (fun K hK => ?_) AllReadyH.nil)
  clear hHeld
  go_simp
  have k := K6
  refine (rwe _).mono ?_
  rintro e u7 ⟨ra, rc, rfl, hr, hb⟩
  have R7 := Lib.hid (And.intro hr (k.out.trans (hb.mono k.out.size)))
  clear K6 k hr hb
  have y0 := ((R7.out.2).cell (p := ⟨B1, 0, none⟩) (cell_lt Y0.out)).trans Y0.out
  have y1 := ((R7.out.2).cell (p := ⟨B1, 1, none⟩) (cell_lt Y1.out)).trans Y1.out
  refine hK.out _ _ ⟨y0, y1⟩ (fun hHeld => ?_)
  clear hK K
  (try simp only [Act.put, List.getElem_toArray, List.getElem_cons_zero, List.getElem_cons_succ, List.setIfInBounds_toArray, List.set_cons_zero, List.set_cons_succ])
  refine wpAnyH_ready (rs := [32]) (by kernel_rfl) (by simp) (AllReadyH.cons rfl (fun K hK => ?_) AllReadyH.nil)
  clear hHeld
  go_simp
  refine hK.out _ _ (by first | exact ⟨y0, y1⟩ | go_keep) (fun hHeld => ?_)
  clear hK K
  (try simp only [Act.put, List.getElem_toArray, List.getElem_cons_zero, List.getElem_cons_succ, List.setIfInBounds_toArray, List.set_cons_zero, List.set_cons_succ])
  refine wpAnyH_ready (rs := [33]) (by kernel_rfl) (by simp) (AllReadyH.cons rfl (fun K hK => ?_) AllReadyH.nil)
  clear hHeld
  go_simp
  have C := none_raw u7 (H8e.out.below R7.out.2) ra 15 rc hb (rawB 2 0 nK 1 1 4) R7.out.1 (H8h.out.below R7.out.2) (by rw [rwe_len]; decide) 2 (by unfold isI64; decide) e7
  refine C.mono ?_
  clear C
  rintro e v7 ⟨rfl, hb⟩
  have K7 := Lib.hid ((R7.out.2).trans (hb.mono (R7.out.2).size))
  clear R7 hb
  have y0 := ((K7.out).cell (p := ⟨B1, 0, none⟩) (cell_lt Y0.out)).trans Y0.out
  have y1 := ((K7.out).cell (p := ⟨B1, 1, none⟩) (cell_lt Y1.out)).trans Y1.out
  refine hK.out _ _ ⟨y0, y1⟩ (fun hHeld => ?_)
  clear hK K
  (try simp only [Act.put, List.getElem_toArray, List.getElem_cons_zero, List.getElem_cons_succ, List.setIfInBounds_toArray, List.set_cons_zero, List.set_cons_succ])
  refine wpAnyH_take (i := 34) (v := ?_) rfl (by kernel_rfl) (by kernel_rfl) (by kernel_rfl) (fun _ _ _ h => hP _ _ _ _ _ h) (Or.inl ⟨by rfl, ?_⟩) (by assumption) ?_
  rotate_left
  · (intro wz hSz; (try dsimp only at hSz); go_simp) <;> with_reducible rfl
  simp only [Act.put, List.getElem_toArray, List.getElem_cons_zero, List.getElem_cons_succ, List.setIfInBounds_toArray, List.set_cons_zero, List.set_cons_succ]
  refine wpAnyH_take (i := 35) (v := ?_) rfl (by kernel_rfl) (by kernel_rfl) (by kernel_rfl) (fun _ _ _ h => hP _ _ _ _ _ h) (Or.inl ⟨by rfl, ?_⟩) (by assumption) ?_
  rotate_left
  · (intro wz hSz; (try dsimp only at hSz); go_simp) <;> with_reducible rfl
  simp only [Act.put, List.getElem_toArray, List.getElem_cons_zero, List.getElem_cons_succ, List.setIfInBounds_toArray, List.set_cons_zero, List.set_cons_succ]
  refine wpAnyH_at (f' := 54) (l' := (List.replicate 36 true ++ List.replicate 54 false).toArray) (by kernel_rfl) (by kernel_rfl) ?_
  exact hN _ _ _ _ _ _ _ _ _ _ _ _ K7.out
end Go.Proofs.YtbepcjajbcecnaaGreatDoor

/-
  PagesNumbers: the region of the commits that are none, part 3 (printed by wip/gen/n5part.py).
-/
namespace Go.Proofs.YtbepcjajbcecnaaGreatDoor
open Go.RowKit Go.Maps Go.MapKept
set_option linter.unusedSimpArgs false
set_option maxRecDepth 100000 in
set_option maxHeartbeats 60000000 in
theorem num_part3 (g v7 : World) (B1 hb : Nat) (H8e : WEnv g) (H8h : Rd g (.slice (some ⟨hb, 0, none⟩) 5 5) (bcells hello5)) (Y0 : g.cell? ⟨B1, 0, none⟩ = some (.string ⟨#[99, 49]⟩)) (Y1 : g.cell? ⟨B1, 1, none⟩ = some (.slice (some ⟨hb, 0, none⟩) 5 5)) (K7 : Below g.heap.size g v7) (Q : Exit → Act → World → Prop) (t0 t2 t3 t4 t5 t6 t7 t8 t9 t10 t11 t12 t13 t14 t15 t16 t17 t18 t19 t20 t21 t22 t23 t24 t25 t26 t27 t28 t29 t30 t31 t32 t33 t34 t35 t36 t37 t38 t39 t40 t41 t42 t43 t44 t45 t46 t47 t48 t49 t50 t51 t52 t53 t54 t55 t56 t57 t58 t59 t60 t61 t62 t63 t64 t65 t66 t67 t68 t69 t70 t71 t72 t73 t74 t75 t76 t77 t78 t79 t80 t81 t82 t83 t84 t85 t86 t87 t88 t89 t90 t91 t92 t93 t94 t95 t96 t97 t98 t100 t101 t102 t103 t104 t105 t106 t107 t108 t109 t110 t111 t112 t113 t114 t115 t116 t117 t118 t119 t120 t121 t122 t123 t124 t125 t126 t127 t128 t129 t130 t131 t132 t133 t134 t135 t136 t137 t138 t139 t140 t141 t142 t143 t144 t145 t146 t147 t148 t149 t150 t151 t152 t153 t154 t155 t156 t157 t158 t159 t160 t161 t162 t163 t164 t165 t166 t167 t168 t169 t170 t171 t172 t173 t174 t175 t176 t177 t178 t179 t180 t181 t182 t183 t184 t185 t186 t187 t188 t189 t190 t191 t192 t193 t194 t195 t196 t197 t198 t199 t200 t201 t202 t203 t204 t205 t206 t207 t208 t209 t210 t211 t212 t213 t214 t215 t216 t217 t218 t219 t220 t221 t222 t223 t224 t225 t226 t227 t228 t229 t230 t231 t232 t233 t234 t235 t236 t237 t238 t239 t240 t241 t242 t243 t244 t245 t246 t247 t248 t249 t250 t251 t252 t253 t254 t255 t256 t257 t258 t259 t260 t261 t262 t263 t264 t265 t266 t267 t268 t269 t270 t271 t272 t273 t274 t275 t276 t277 t278 t279 t280 t281 t282 t283 t284 t285 t286 t287 t288 t289 t290 t291 t292 t293 t294 t295 t296 t297 t298 t299 t300 t301 t302 t303 : Value)
    (hP : ∀ c (a : Act) (i : Nat) v w', Q (.panic c) (a.put (some i) v) w' → Q (.panic c) a w') (hN : ∀ (s100 s101 s102 s103 s104 s105 s106 s107 s108 s109 s110 : Value) (v' : World), Below g.heap.size g v' → wpAnyH Tryz.prog .any (opsOf (regOf Tryz.f11 7)) Q (fun w' => w'.cell? ⟨B1, 0, none⟩ = some (.string ⟨#[99, 49]⟩) ∧ w'.cell? ⟨B1, 1, none⟩ = some (.slice (some ⟨hb, 0, none⟩) 5 5)) 42 (List.replicate 48 true ++ List.replicate 42 false).toArray { tmps := #[t0, .pointer (some ⟨B1, 0, none⟩), t2, t3, t4, t5, t6, t7, t8, t9, t10, t11, t12, t13, t14, t15, t16, t17, t18, t19, t20, t21, t22, t23, t24, t25, t26, t27, t28, t29, t30, t31, t32, t33, t34, t35, t36, t37, t38, t39, t40, t41, t42, t43, t44, t45, t46, t47, t48, t49, t50, t51, t52, t53, t54, t55, t56, t57, t58, t59, t60, t61, t62, t63, t64, t65, t66, t67, t68, t69, t70, t71, t72, t73, t74, t75, t76, t77, t78, t79, t80, t81, t82, t83, t84, t85, t86, t87, t88, t89, t90, t91, t92, t93, t94, t95, t96, t97, t98, .bool true, s100, s101, s102, s103, s104, s105, s106, s107, s108, s109, s110, .bool true, t112, t113, t114, t115, t116, t117, t118, t119, t120, t121, t122, t123, t124, t125, t126, t127, t128, t129, t130, t131, t132, t133, t134, t135, t136, t137, t138, t139, t140, t141, t142, t143, t144, t145, t146, t147, t148, t149, t150, t151, t152, t153, t154, t155, t156, t157, t158, t159, t160, t161, t162, t163, t164, t165, t166, t167, t168, t169, t170, t171, t172, t173, t174, t175, t176, t177, t178, t179, t180, t181, t182, t183, t184, t185, t186, t187, t188, t189, t190, t191, t192, t193, t194, t195, t196, t197, t198, t199, t200, t201, t202, t203, t204, t205, t206, t207, t208, t209, t210, t211, t212, t213, t214, t215, t216, t217, t218, t219, t220, t221, t222, t223, t224, t225, t226, t227, t228, t229, t230, t231, t232, t233, t234, t235, t236, t237, t238, t239, t240, t241, t242, t243, t244, t245, t246, t247, t248, t249, t250, t251, t252, t253, t254, t255, t256, t257, t258, t259, t260, t261, t262, t263, t264, t265, t266, t267, t268, t269, t270, t271, t272, t273, t274, t275, t276, t277, t278, t279, t280, t281, t282, t283, t284, t285, t286, t287, t288, t289, t290, t291, t292, t293, t294, t295, t296, t297, t298, t299, t300, t301, t302, t303], defers := [] } v') :
    wpAnyH Tryz.prog .any (opsOf (regOf Tryz.f11 7)) Q (fun w' => w'.cell? ⟨B1, 0, none⟩ = some (.string ⟨#[99, 49]⟩) ∧ w'.cell? ⟨B1, 1, none⟩ = some (.slice (some ⟨hb, 0, none⟩) 5 5)) 54 (List.replicate 36 true ++ List.replicate 54 false).toArray { tmps := #[t0, .pointer (some ⟨B1, 0, none⟩), t2, t3, t4, t5, t6, t7, t8, t9, t10, t11, t12, t13, t14, t15, t16, t17, t18, t19, t20, t21, t22, t23, t24, t25, t26, t27, t28, t29, t30, t31, t32, t33, t34, t35, t36, t37, t38, t39, t40, t41, t42, t43, t44, t45, t46, t47, t48, t49, t50, t51, t52, t53, t54, t55, t56, t57, t58, t59, t60, t61, t62, t63, t64, t65, t66, t67, t68, t69, t70, t71, t72, t73, t74, t75, t76, t77, t78, t79, t80, t81, t82, t83, t84, t85, t86, t87, t88, t89, t90, t91, t92, t93, t94, t95, t96, t97, t98, .bool true, t100, t101, t102, t103, t104, t105, t106, t107, t108, t109, t110, t111, t112, t113, t114, t115, t116, t117, t118, t119, t120, t121, t122, t123, t124, t125, t126, t127, t128, t129, t130, t131, t132, t133, t134, t135, t136, t137, t138, t139, t140, t141, t142, t143, t144, t145, t146, t147, t148, t149, t150, t151, t152, t153, t154, t155, t156, t157, t158, t159, t160, t161, t162, t163, t164, t165, t166, t167, t168, t169, t170, t171, t172, t173, t174, t175, t176, t177, t178, t179, t180, t181, t182, t183, t184, t185, t186, t187, t188, t189, t190, t191, t192, t193, t194, t195, t196, t197, t198, t199, t200, t201, t202, t203, t204, t205, t206, t207, t208, t209, t210, t211, t212, t213, t214, t215, t216, t217, t218, t219, t220, t221, t222, t223, t224, t225, t226, t227, t228, t229, t230, t231, t232, t233, t234, t235, t236, t237, t238, t239, t240, t241, t242, t243, t244, t245, t246, t247, t248, t249, t250, t251, t252, t253, t254, t255, t256, t257, t258, t259, t260, t261, t262, t263, t264, t265, t266, t267, t268, t269, t270, t271, t272, t273, t274, t275, t276, t277, t278, t279, t280, t281, t282, t283, t284, t285, t286, t287, t288, t289, t290, t291, t292, t293, t294, t295, t296, t297, t298, t299, t300, t301, t302, t303], defers := [] } v7 := by
  obtain ⟨OPS, hO⟩ : ∃ o, o = (opsOf (regOf Tryz.f11 7)) := ⟨_, rfl⟩
  rw [← hO] at hN ⊢
  simp only [regOf, opsOf, Tryz.f11, findR, Nat.beq, cond_true, cond_false, Option.getD_some, List.append] at hO
  subst hO
  have H8e := Lib.hid H8e
  have H8h := Lib.hid H8h
  have Y0 := Lib.hid Y0
  have Y1 := Lib.hid Y1
  have K7 := Lib.hid K7
  have y0 := ((K7.out).cell (p := ⟨B1, 0, none⟩) (cell_lt Y0.out)).trans Y0.out
  have y1 := ((K7.out).cell (p := ⟨B1, 1, none⟩) (cell_lt Y1.out)).trans Y1.out
  have hHeld := And.intro y0 y1
  refine wpAnyH_take (i := 37) (v := ?_) rfl (by kernel_rfl) (by kernel_rfl) (by kernel_rfl) (fun _ _ _ h => hP _ _ _ _ _ h) (Or.inl ⟨by rfl, ?_⟩) (by assumption) ?_
  rotate_left
  · (intro wz hSz; (try dsimp only at hSz); go_simp) <;> with_reducible rfl
  simp only [Act.put, List.getElem_toArray, List.getElem_cons_zero, List.getElem_cons_succ, List.setIfInBounds_toArray, List.set_cons_zero, List.set_cons_succ]
  refine wpAnyH_ready (rs := [36]) (by kernel_rfl) (by simp) (AllReadyH.cons rfl (fun K hK => ?_) AllReadyH.nil)
  clear hHeld
  go_simp
  have k := K7
  refine (rwf _).mono ?_
  rintro e u8 ⟨ra, rc, rfl, hr, hb⟩
  have R8 := Lib.hid (And.intro hr (k.out.trans (hb.mono k.out.size)))
  clear K7 k hr hb
  have y0 := ((R8.out.2).cell (p := ⟨B1, 0, none⟩) (cell_lt Y0.out)).trans Y0.out
  have y1 := ((R8.out.2).cell (p := ⟨B1, 1, none⟩) (cell_lt Y1.out)).trans Y1.out
  refine hK.out _ _ ⟨y0, y1⟩ (fun hHeld => ?_)
  clear hK K
  (try simp only [Act.put, List.getElem_toArray, List.getElem_cons_zero, List.getElem_cons_succ, List.setIfInBounds_toArray, List.set_cons_zero, List.set_cons_succ])
  refine wpAnyH_ready (rs := [38]) (by kernel_rfl) (by simp) (AllReadyH.cons rfl (fun K hK => ?_) AllReadyH.nil)
  clear hHeld
  go_simp
  refine hK.out _ _ (by first | exact ⟨y0, y1⟩ | go_keep) (fun hHeld => ?_)
  clear hK K
  (try simp only [Act.put, List.getElem_toArray, List.getElem_cons_zero, List.getElem_cons_succ, List.setIfInBounds_toArray, List.set_cons_zero, List.set_cons_succ])
  refine wpAnyH_ready (rs := [39]) (by kernel_rfl) (by simp) (AllReadyH.cons rfl (fun K hK => ?_) AllReadyH.nil)
  clear hHeld
  go_simp
  have C := none_raw u8 (H8e.out.below R8.out.2) ra 15 rc hb (rawB 2 2 nK 1 1 4) R8.out.1 (H8h.out.below R8.out.2) (by rw [rwf_len]; decide) 2 (by unfold isI64; decide) e8
  refine C.mono ?_
  clear C
  rintro e v8 ⟨rfl, hb⟩
  have K8 := Lib.hid ((R8.out.2).trans (hb.mono (R8.out.2).size))
  clear R8 hb
  have y0 := ((K8.out).cell (p := ⟨B1, 0, none⟩) (cell_lt Y0.out)).trans Y0.out
  have y1 := ((K8.out).cell (p := ⟨B1, 1, none⟩) (cell_lt Y1.out)).trans Y1.out
  refine hK.out _ _ ⟨y0, y1⟩ (fun hHeld => ?_)
  clear hK K
  (try simp only [Act.put, List.getElem_toArray, List.getElem_cons_zero, List.getElem_cons_succ, List.setIfInBounds_toArray, List.set_cons_zero, List.set_cons_succ])
  refine wpAnyH_take (i := 40) (v := ?_) rfl (by kernel_rfl) (by kernel_rfl) (by kernel_rfl) (fun _ _ _ h => hP _ _ _ _ _ h) (Or.inl ⟨by rfl, ?_⟩) (by assumption) ?_
  rotate_left
  · (intro wz hSz; (try dsimp only at hSz); go_simp) <;> with_reducible rfl
  simp only [Act.put, List.getElem_toArray, List.getElem_cons_zero, List.getElem_cons_succ, List.setIfInBounds_toArray, List.set_cons_zero, List.set_cons_succ]
  refine wpAnyH_take (i := 41) (v := ?_) rfl (by kernel_rfl) (by kernel_rfl) (by kernel_rfl) (fun _ _ _ h => hP _ _ _ _ _ h) (Or.inl ⟨by rfl, ?_⟩) (by assumption) ?_
  rotate_left
  · (intro wz hSz; (try dsimp only at hSz); go_simp) <;> with_reducible rfl
  simp only [Act.put, List.getElem_toArray, List.getElem_cons_zero, List.getElem_cons_succ, List.setIfInBounds_toArray, List.set_cons_zero, List.set_cons_succ]
  refine wpAnyH_take (i := 43) (v := ?_) rfl (by kernel_rfl) (by kernel_rfl) (by kernel_rfl) (fun _ _ _ h => hP _ _ _ _ _ h) (Or.inl ⟨by rfl, ?_⟩) (by assumption) ?_
  rotate_left
  · (intro wz hSz; (try dsimp only at hSz); go_simp) <;> with_reducible rfl
  simp only [Act.put, List.getElem_toArray, List.getElem_cons_zero, List.getElem_cons_succ, List.setIfInBounds_toArray, List.set_cons_zero, List.set_cons_succ]
  refine wpAnyH_ready (rs := [42]) (by kernel_rfl) (by simp) (AllReadyH.cons rfl (fun K hK => ?_) AllReadyH.nil)
  clear hHeld
  go_simp
  have k := K8
  refine (rwg _).mono ?_
  rintro e u9 ⟨ra, rc, rfl, hr, hb⟩
  have R9 := Lib.hid (And.intro hr (k.out.trans (hb.mono k.out.size)))
  clear K8 k hr hb
  have y0 := ((R9.out.2).cell (p := ⟨B1, 0, none⟩) (cell_lt Y0.out)).trans Y0.out
  have y1 := ((R9.out.2).cell (p := ⟨B1, 1, none⟩) (cell_lt Y1.out)).trans Y1.out
  refine hK.out _ _ ⟨y0, y1⟩ (fun hHeld => ?_)
  clear hK K
  (try simp only [Act.put, List.getElem_toArray, List.getElem_cons_zero, List.getElem_cons_succ, List.setIfInBounds_toArray, List.set_cons_zero, List.set_cons_succ])
  refine wpAnyH_ready (rs := [44]) (by kernel_rfl) (by simp) (AllReadyH.cons rfl (fun K hK => ?_) AllReadyH.nil)
  clear hHeld
  go_simp
  refine hK.out _ _ (by first | exact ⟨y0, y1⟩ | go_keep) (fun hHeld => ?_)
  clear hK K
  (try simp only [Act.put, List.getElem_toArray, List.getElem_cons_zero, List.getElem_cons_succ, List.setIfInBounds_toArray, List.set_cons_zero, List.set_cons_succ])
  refine wpAnyH_ready (rs := [45]) (by kernel_rfl) (by simp) (AllReadyH.cons rfl (fun K hK => ?_) AllReadyH.nil)
  clear hHeld
  go_simp
  have C := none_raw u9 (H8e.out.below R9.out.2) ra 14 rc hb (rawB 2 1 ⟨#[]⟩ 1 1 4) R9.out.1 (H8h.out.below R9.out.2) (by rw [rwg_len]; decide) 2 (by unfold isI64; decide) e9
  refine C.mono ?_
  clear C
  rintro e v9 ⟨rfl, hb⟩
  have K9 := Lib.hid ((R9.out.2).trans (hb.mono (R9.out.2).size))
  clear R9 hb
  have y0 := ((K9.out).cell (p := ⟨B1, 0, none⟩) (cell_lt Y0.out)).trans Y0.out
  have y1 := ((K9.out).cell (p := ⟨B1, 1, none⟩) (cell_lt Y1.out)).trans Y1.out
  refine hK.out _ _ ⟨y0, y1⟩ (fun hHeld => ?_)
  clear hK K
  (try simp only [Act.put, List.getElem_toArray, List.getElem_cons_zero, List.getElem_cons_succ, List.setIfInBounds_toArray, List.set_cons_zero, List.set_cons_succ])
  refine wpAnyH_take (i := 46) (v := ?_) rfl (by kernel_rfl) (by kernel_rfl) (by kernel_rfl) (fun _ _ _ h => hP _ _ _ _ _ h) (Or.inl ⟨by rfl, ?_⟩) (by assumption) ?_
  rotate_left
  · (intro wz hSz; (try dsimp only at hSz); go_simp) <;> with_reducible rfl
  simp only [Act.put, List.getElem_toArray, List.getElem_cons_zero, List.getElem_cons_succ, List.setIfInBounds_toArray, List.set_cons_zero, List.set_cons_succ]
  refine wpAnyH_take (i := 47) (v := ?_) rfl (by kernel_rfl) (by kernel_rfl) (by kernel_rfl) (fun _ _ _ h => hP _ _ _ _ _ h) (Or.inl ⟨by rfl, ?_⟩) (by assumption) ?_
  rotate_left
  · (intro wz hSz; (try dsimp only at hSz); go_simp) <;> with_reducible rfl
  simp only [Act.put, List.getElem_toArray, List.getElem_cons_zero, List.getElem_cons_succ, List.setIfInBounds_toArray, List.set_cons_zero, List.set_cons_succ]
  refine wpAnyH_at (f' := 42) (l' := (List.replicate 48 true ++ List.replicate 42 false).toArray) (by kernel_rfl) (by kernel_rfl) ?_
  exact hN _ _ _ _ _ _ _ _ _ _ _ _ K9.out
end Go.Proofs.YtbepcjajbcecnaaGreatDoor
