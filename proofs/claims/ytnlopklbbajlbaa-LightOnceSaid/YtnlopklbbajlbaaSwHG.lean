/- LightOnce: behind its first See, as far as the next call (printed by tools/genhg.py). -/
import Derived.Test.YtnlopklbbajlbaaSwHF
set_option linter.unusedVariables false
set_option linter.unusedSimpArgs false
set_option maxRecDepth 100000
namespace Go.Proofs.Ytnlopklbbajlbaa.Sw
open Go Go.Conc Go.ConcN Go.RowKit
open Go.ConcR (DC0 stA smA)
theorem goes_lt {P : Program} {D : World → World → Array Event → Prop} {Stop : Goroutine → World → Prop} {g : Goroutine} {w : World} {n k : Nat} (h : ∃ m, m ≤ n ∧ Goes P true AtRel D Stop m g w) (hk : n ≤ k) : Goes P true AtRel D Stop k g w := by
  obtain ⟨m, h1, h2⟩ := h
  exact Go.ConcM.goes_le (Nat.le_trans h1 hk) h2
/-- What the lengths are, once it has looked. -/
def Small (L : Nat) (rn : Nat → Nat) : Prop := L ≤ 30 ∧ ∀ i, i < L → rn i ≤ 300
theorem small_of {L : Nat} {rn : Nat → Nat} (hr : ∀ i, i < L → rn i ≤ 281474976710656) (h1 : ¬ 300 < sumW rn L) (h2 : ¬ 30 < L) : Small L rn := by
  refine ⟨by omega, fun i hi => ?_⟩
  obtain ⟨e1, _⟩ := sumW_tot rn L hr L (Nat.le_refl _) (by omega)
  have := totN_le rn hi
  omega
section
variable {Shun : Loc → Prop} {W : World} {lp wp : Option Addr} {L lc K wc : Nat} {rq : Nat → Option Addr} {rn rc : Nat → Nat} {s : Nat → Nat → ByteArray} {wk : Nat → Int}
set_option maxHeartbeats 16000000 in
/-- Behind the sum. -/
theorem seg12 (hI : Inp W lp L wp K rq rn rc s wk) {w : World} (hw : Lw W w) (hS : ShunOk W.heap.size Shun w) :
    ∃ m, ∀ (t2 t3 t5 t6 t9 t10 t11 t12 t13 t14 t15 t16 t17 t18 t19 t20 t21 t22 t23 t24 t25 t26 t27 t28 t29 t30 t31 t32 t33 t34 t35 t36 t37 t38 t39 t40 t41 t42 t43 t44 t45 t46 t47 t48 t49 t50 t51 t52 t53 t54 t55 t56 t57 t58 t59 t60 t61 t62 t63 t64 t65 t66 t67 t68 t69 t70 t71 t72 t73 t74 t75 t76 t77 t78 t79 t80 t81 t82 t83 t84 t85 t86 t87 t88 t89 t90 t91 t92 t93 t94 t95 t96 t97 t98 t99 t100 t101 t102 t103 t104 t105 t106 t107 t108 t109 t110 t111 t112 t113 t114 t115 t116 t117 t118 t119 t120 t121 t122 t123 t124 t125 t126 t127 t128 t129 t130 t131 : Value), Goes Try.prog true AtRel (DL Shun) (fun g w => FinL W Shun g w ∨ (Small L rn ∧ 0 < L ∧ CallI W lp L lc wp K wc rq rn rc 0 Shun g w)) m (G ((Go.Conc.base 3).at ⟨#[.slice lp L lc, .slice wp K wc, t2, t3, .bool false, t5, t6, .int .i64 (sumW rn L), .int .i64 (L : Int), t9, t10, t11, t12, t13, t14, t15, t16, t17, t18, t19, t20, t21, t22, t23, t24, t25, t26, t27, t28, t29, t30, t31, t32, t33, t34, t35, t36, t37, t38, t39, t40, t41, t42, t43, t44, t45, t46, t47, t48, t49, t50, t51, t52, t53, t54, t55, t56, t57, t58, t59, t60, t61, t62, t63, t64, t65, t66, t67, t68, t69, t70, t71, t72, t73, t74, t75, t76, t77, t78, t79, t80, t81, t82, t83, t84, t85, t86, t87, t88, t89, t90, t91, t92, t93, t94, t95, t96, t97, t98, t99, t100, t101, t102, t103, t104, t105, t106, t107, t108, t109, t110, t111, t112, t113, t114, t115, t116, t117, t118, t119, t120, t121, t122, t123, t124, t125, t126, t127, t128, t129, t130, t131], []⟩ [.code REST12a]) []) w := by
  have hD := dl_idle Shun
  have eL := hI.lL
  obtain ⟨m, hm⟩ := segI (Shun := Shun) (lc := lc) (wc := wc) hI
  refine ⟨m + 200, fun t2 t3 t5 t6 t9 t10 t11 t12 t13 t14 t15 t16 t17 t18 t19 t20 t21 t22 t23 t24 t25 t26 t27 t28 t29 t30 t31 t32 t33 t34 t35 t36 t37 t38 t39 t40 t41 t42 t43 t44 t45 t46 t47 t48 t49 t50 t51 t52 t53 t54 t55 t56 t57 t58 t59 t60 t61 t62 t63 t64 t65 t66 t67 t68 t69 t70 t71 t72 t73 t74 t75 t76 t77 t78 t79 t80 t81 t82 t83 t84 t85 t86 t87 t88 t89 t90 t91 t92 t93 t94 t95 t96 t97 t98 t99 t100 t101 t102 t103 t104 t105 t106 t107 t108 t109 t110 t111 t112 t113 t114 t115 t116 t117 t118 t119 t120 t121 t122 t123 t124 t125 t126 t127 t128 t129 t130 t131 => ?_⟩
  simp (config := { decide := true }) only [REST12a, regionOf, tailFrom, firstId, findLoop, blockOf, body3, Try.f3, Option.getD_some, Option.bind_some, reduceIte, Option.some.injEq, Nat.reduceEqDiff, reduceCtorEq]
  by_cases h1 : 300 < sumW rn L
  · ((iterate 2 (refine LG.ctl hD rfl (fun _ => stepG_seq) ?_)); refine LG.ctl hD rfl (fun _ => stepG_region) ?_; simp only [List.size_toArray, List.length_cons, List.length_nil, Nat.reduceAdd, Nat.zero_add, List.range, List.range.loop]; (iterate 3 (refine LG.value hD _ rfl rfl (by k_ne) (fun _ => by go_simp <;> rfl) (fun _ => by simp [go_sem, *]) ?_; walk_nrm)); (iterate 3 (refine LG.unwanted hD rfl rfl ?_; walk_nrm)); refine LG.value hD _ rfl rfl (by k_ne) (fun _ => by go_simp <;> rfl) (fun _ => by simp [go_sem, *]) ?_; walk_nrm; refine LG.ctl hD rfl (fun _ => stepG_region_end) ?_; refine LG.ctl hD rfl (fun _ => stepG_cond (t := true) rfl) ?_; simp only [if_true, if_false, Bool.false_eq_true, ↓reduceIte]; refine LG.ctl hD rfl (fun _ => stepG_seq) ?_; refine LG.ctl hD rfl (fun _ => stepG_region) ?_; simp only [List.size_toArray, List.length_cons, List.length_nil, Nat.reduceAdd, Nat.zero_add, List.range, List.range.loop]; refine LG.value hD _ rfl rfl (by k_ne) (fun _ => by go_simp <;> rfl) (fun _ => by simp [go_sem, *]) ?_; walk_nrm; refine LG.ctl hD rfl (fun _ => stepG_region_end) ?_; refine LG.ctl hD rfl (fun _ => stepG_ret') ?_)
    refine Goes.stop fun w₁ hr => ?_
    obtain ⟨d, rfl⟩ := hr
    refine .inl (fun d2 => ⟨rfl, .bool true, #[], ?_, by simp, rfl, (hw.at d).at d2⟩)
    simp [G, stepG, unwind, doReturn, results, Frame.at, Go.Conc.base, Try.func3, Try.f3, seen, GStep.after]
  · by_cases h2 : 30 < L
    · have h2' : (30 : Int) < (L : Int) := by omega
      ((iterate 2 (refine LG.ctl hD rfl (fun _ => stepG_seq) ?_)); refine LG.ctl hD rfl (fun _ => stepG_region) ?_; simp only [List.size_toArray, List.length_cons, List.length_nil, Nat.reduceAdd, Nat.zero_add, List.range, List.range.loop]; (iterate 7 (refine LG.value hD _ rfl rfl (by k_ne) (fun _ => by go_simp <;> rfl) (fun _ => by simp [go_sem, *]) ?_; walk_nrm)); refine LG.ctl hD rfl (fun _ => stepG_region_end) ?_; refine LG.ctl hD rfl (fun _ => stepG_cond (t := true) rfl) ?_; simp only [if_true, if_false, Bool.false_eq_true, ↓reduceIte]; refine LG.ctl hD rfl (fun _ => stepG_seq) ?_; refine LG.ctl hD rfl (fun _ => stepG_region) ?_; simp only [List.size_toArray, List.length_cons, List.length_nil, Nat.reduceAdd, Nat.zero_add, List.range, List.range.loop]; refine LG.value hD _ rfl rfl (by k_ne) (fun _ => by go_simp <;> rfl) (fun _ => by simp [go_sem, *]) ?_; walk_nrm; refine LG.ctl hD rfl (fun _ => stepG_region_end) ?_; refine LG.ctl hD rfl (fun _ => stepG_ret') ?_)
      refine Goes.stop fun w₁ hr => ?_
      obtain ⟨d, rfl⟩ := hr
      refine .inl (fun d2 => ⟨rfl, .bool true, #[], ?_, by simp, rfl, (hw.at d).at d2⟩)
      simp [G, stepG, unwind, doReturn, results, Frame.at, Go.Conc.base, Try.func3, Try.f3, seen, GStep.after]
    · have h2' : ¬ (30 : Int) < (L : Int) := by omega
      have hsm := small_of hI.lr h1 h2
      ((iterate 2 (refine LG.ctl hD rfl (fun _ => stepG_seq) ?_)); refine LG.ctl hD rfl (fun _ => stepG_region) ?_; simp only [List.size_toArray, List.length_cons, List.length_nil, Nat.reduceAdd, Nat.zero_add, List.range, List.range.loop]; (iterate 7 (refine LG.value hD _ rfl rfl (by k_ne) (fun _ => by go_simp <;> rfl) (fun _ => by simp [go_sem, *]) ?_; walk_nrm)); refine LG.ctl hD rfl (fun _ => stepG_region_end) ?_; refine LG.ctl hD rfl (fun _ => stepG_cond (t := false) rfl) ?_; simp only [if_true, if_false, Bool.false_eq_true, ↓reduceIte]; refine LG.ctl hD rfl (fun _ => stepG_skip) ?_; refine LG.ctl hD rfl (fun _ => stepG_seq) ?_; refine LG.ctl hD rfl (fun _ => stepG_region) ?_; simp only [List.size_toArray, List.length_cons, List.length_nil, Nat.reduceAdd, Nat.zero_add, List.range, List.range.loop])
      refine LG.value hD (.agg cells0) rfl rfl (by k_ne) (fun w => (build_run rfl).1) (fun w => (build_run rfl).2) ?_
      walk_nrm
      refine LG.boxA rfl rfl (by k_ne) rfl rfl ?_
      have hA : w.heap.size = w.heap.size := rfl
      have hO : LO W w.heap.size [] none [] (.slice none 0 0) (w.alloc (.cells cells0 46)) := by
        refine ⟨hw.alloc _, ⟨?_, List.nodup_nil, fun _ => rfl, fun mp e => (by cases e)⟩, hw.size, fun mp e => (by cases e), World.ownsRow_nil _ _ _ _, List.nodup_nil, fun x => Iff.rfl⟩
        show (w.heap.push _)[w.heap.size]? = _
        simp
        rfl
      have hS' : ShunOk W.heap.size Shun (w.alloc (.cells cells0 46)) := fun l hl => by
        obtain ⟨ad, cs, fz, e1, e2, e3⟩ := hS l hl
        refine ⟨ad, cs, fz, e1, e2, ?_⟩
        show (w.heap.push _)[ad.block]? = _
        rw [Array.getElem?_push, if_neg (by have := (Array.getElem?_eq_some_iff.1 e3).1; omega)]
        exact e3
      generalize w.heap.size = A at hO ⊢
      generalize w.alloc (.cells cells0 46) = w2 at hO hS' ⊢
      walk_nrm
      (refine LG.value hD _ rfl rfl (by k_ne) (fun _ => by go_simp <;> rfl) (fun _ => by simp [go_sem, *]) ?_; walk_nrm; refine LG.ctl hD rfl (fun _ => stepG_region_end) ?_; refine LG.ctl hD rfl (fun _ => stepG_seq) ?_; refine LG.ctl hD rfl (fun _ => stepG_region) ?_; simp only [List.size_toArray, List.length_cons, List.length_nil, Nat.reduceAdd, Nat.zero_add, List.range, List.range.loop]; refine LG.value hD _ rfl rfl (by k_ne) (fun _ => by go_simp <;> rfl) (fun _ => by simp [go_sem, *]) ?_; walk_nrm; refine LG.ctl hD rfl (fun _ => stepG_region_end) ?_; (iterate 2 (refine LG.ctl hD rfl (fun _ => stepG_seq) ?_)); refine LG.ctl hD rfl (fun _ => stepG_region) ?_; simp only [List.size_toArray, List.length_cons, List.length_nil, Nat.reduceAdd, Nat.zero_add, List.range, List.range.loop]; refine LG.value hD _ rfl rfl (by k_ne) (fun _ => by go_simp <;> rfl) (fun _ => by simp [go_sem, *]) ?_; walk_nrm; refine LG.ctl hD rfl (fun _ => stepG_region_end) ?_; refine LG.ctl hD rfl (fun _ => stepG_block) ?_)
      refine LG.ctl hD rfl (fun _ => stepG_loop) ?_
      refine Go.ConcM.goes_le (n := m) (by omega) (Go.ConcN.goes_mono (fun g w h => ?_) (hm 0 A [] none [] (.slice none 0 0) w2 _ _ _ _ _ _ _ _ _ _ _ _ _ _ _ _ _ _ _ _ _ _ _ _ _ _ _ _ _ _ _ _ _ _ _ _ _ _ _ _ _ _ _ _ _ _ _ _ _ _ _ _ _ _ _ _ _ _ _ _ _ _ _ _ _ _ _ _ _ _ _ _ _ _ _ _ _ _ _ _ _ _ _ _ _ _ _ _ _ _ _ _ _ _ _ _ _ _ _ _ _ _ _ _ _ _ _ _ _ _ _ _ _ _ _ _ _ _ _ _ _ _ _ _ _ _ (Nat.zero_le _) hO (Nat.zero_le _) hS'))
      rcases h with ⟨_, h⟩ | ⟨h0, h⟩
      · exact .inl h
      · exact .inr ⟨hsm, h0, h⟩
set_option maxHeartbeats 16000000 in
/-- ████ BEHIND THE FIRST See. ████ -/
theorem seg1 (hI : Inp W lp L wp K rq rn rc s wk) {w : World} (hw : Lw W w) (hS : ShunOk W.heap.size Shun w) {A0 : Nat} {S : List ByteArray} {M : Option Nat} (hA : AlAt w A0 S M) (hl : S.length = 2) {p : Option Addr} {c : Nat} (t2 t3 t6 t7 t8 t9 t10 t11 t12 t13 t14 t15 t16 t17 t18 t19 t20 t21 t22 t23 t24 t25 t26 t27 t28 t29 t30 t31 t32 t33 t34 t35 t36 t37 t38 t39 t40 t41 t42 t43 t44 t45 t46 t47 t48 t49 t50 t51 t52 t53 t54 t55 t56 t57 t58 t59 t60 t61 t62 t63 t64 t65 t66 t67 t68 t69 t70 t71 t72 t73 t74 t75 t76 t77 t78 t79 t80 t81 t82 t83 t84 t85 t86 t87 t88 t89 t90 t91 t92 t93 t94 t95 t96 t97 t98 t99 t100 t101 t102 t103 t104 t105 t106 t107 t108 t109 t110 t111 t112 t113 t114 t115 t116 t117 t118 t119 t120 t121 t122 t123 t124 t125 t126 t127 t128 t129 t130 t131 : Value) :
    ∃ m, Goes Try.prog true AtRel (DL Shun) (fun g w => FinL W Shun g w ∨ (Small L rn ∧ 0 < L ∧ CallI W lp L lc wp K wc rq rn rc 0 Shun g w)) m (G ((Go.Conc.base 3).at ((⟨#[.slice lp L lc, .slice wp K wc, t2, t3, .bool false, .pointer (some ⟨A0, 0, none⟩), t6, t7, t8, t9, t10, t11, t12, t13, t14, t15, t16, t17, t18, t19, t20, t21, t22, t23, t24, t25, t26, t27, t28, t29, t30, t31, t32, t33, t34, t35, t36, t37, t38, t39, t40, t41, t42, t43, t44, t45, t46, t47, t48, t49, t50, t51, t52, t53, t54, t55, t56, t57, t58, t59, t60, t61, t62, t63, t64, t65, t66, t67, t68, t69, t70, t71, t72, t73, t74, t75, t76, t77, t78, t79, t80, t81, t82, t83, t84, t85, t86, t87, t88, t89, t90, t91, t92, t93, t94, t95, t96, t97, t98, t99, t100, t101, t102, t103, t104, t105, t106, t107, t108, t109, t110, t111, t112, t113, t114, t115, t116, t117, t118, t119, t120, t121, t122, t123, t124, t125, t126, t127, t128, t129, t130, t131], []⟩ : Act).put ((ops34[2]?).bind (·.dst)) (.slice p 2 c)) [.inRegion ops34 [3], .code REST5]) []) w := by
  have hD := dl_idle Shun
  obtain ⟨m2, hm2⟩ := sumL hI hw hS (seg12 (lc := lc) (wc := wc) hI hw hS) L 0 (by omega)
  have hc : w.cell? ⟨A0, 6, none⟩ = some (.int .i64 2) := by
    rw [cell_h hA.1 (off := 6) rfl, hl]
    rfl
  refine ⟨m2 + 500, ?_⟩
  simp (config := { decide := true }) only [ops34, REST5, regionOf, tailFrom, firstId, findLoop, blockOf, body3, Try.f3, Option.getD_some, Option.bind_some, reduceIte, Option.some.injEq, Nat.reduceEqDiff, reduceCtorEq]
  walk_nrm
  (refine LG.value hD _ rfl rfl (by k_ne) (fun _ => by go_simp <;> rfl) (fun _ => by simp [go_sem, *]) ?_; walk_nrm; refine LG.ctl hD rfl (fun _ => stepG_region_end) ?_; (iterate 2 (refine LG.ctl hD rfl (fun _ => stepG_seq) ?_)); refine LG.ctl hD rfl (fun _ => stepG_region) ?_; simp only [List.size_toArray, List.length_cons, List.length_nil, Nat.reduceAdd, Nat.zero_add, List.range, List.range.loop]; (iterate 5 (refine LG.value hD _ rfl rfl (by k_ne) (fun _ => by go_simp <;> rfl) (fun _ => by simp [go_sem, *]) ?_; walk_nrm)))
  (refine LG.call hD rfl rfl (by k_ne) rfl Try.func6 nm6 rfl ?_; walk_nrmf Try.f6)
  refine Go.ConcM.goes_le (n := m2 + 200 + 60) (by omega) (seenL hc (hS.cell fun cs fz e => by rw [hA.1] at e; cases e) ?_)
  walk_nrm
  ((iterate 2 (refine LG.value hD _ rfl rfl (by k_ne) (fun _ => by go_simp <;> rfl) (fun _ => by simp [go_sem, *]) ?_; walk_nrm)); refine LG.ctl hD rfl (fun _ => stepG_region_end) ?_; refine LG.ctl hD rfl (fun _ => stepG_cond (t := false) rfl) ?_; simp only [if_true, if_false, Bool.false_eq_true, ↓reduceIte]; refine LG.ctl hD rfl (fun _ => stepG_skip) ?_; refine LG.ctl hD rfl (fun _ => stepG_seq) ?_; refine LG.ctl hD rfl (fun _ => stepG_region) ?_; simp only [List.size_toArray, List.length_cons, List.length_nil, Nat.reduceAdd, Nat.zero_add, List.range, List.range.loop]; refine LG.value hD _ rfl rfl (by k_ne) (fun _ => by go_simp <;> rfl) (fun _ => by simp [go_sem, *]) ?_; walk_nrm; refine LG.ctl hD rfl (fun _ => stepG_region_end) ?_; (iterate 2 (refine LG.ctl hD rfl (fun _ => stepG_seq) ?_)); refine LG.ctl hD rfl (fun _ => stepG_region) ?_; simp only [List.size_toArray, List.length_cons, List.length_nil, Nat.reduceAdd, Nat.zero_add, List.range, List.range.loop]; refine LG.value hD _ rfl rfl (by k_ne) (fun _ => by go_simp <;> rfl) (fun _ => by simp [go_sem, *]) ?_; walk_nrm; refine LG.ctl hD rfl (fun _ => stepG_region_end) ?_; refine LG.ctl hD rfl (fun _ => stepG_block) ?_)
  refine LG.ctl hD rfl (fun _ => stepG_loop) ?_
  exact Go.ConcM.goes_le (n := m2) (by omega) (hm2 _ _ _ _ _ _ _ _ _ _ _ _ _ _ _ _ _ _ _ _ _ _ _ _ _ _ _ _ _ _ _ _ _ _ _ _ _ _ _ _ _ _ _ _ _ _ _ _ _ _ _ _ _ _ _ _ _ _ _ _ _ _ _ _ _ _ _ _ _ _ _ _ _ _ _ _ _ _ _ _ _ _ _ _ _ _ _ _ _ _ _ _ _ _ _ _ _ _ _ _ _ _ _ _ _ _ _ _ _ _ _ _ _ _ _ _ _ _ _ _ _ _ _ _ _ _ _)
end
end Go.Proofs.Ytnlopklbbajlbaa.Sw
