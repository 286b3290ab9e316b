/- LightOnce: behind a See of its loop (printed by tools/genhh.py). -/
import Derived.Test.YtnlopklbbajlbaaSwHG
set_option linter.unusedVariables false
set_option linter.unusedSimpArgs false
set_option maxRecDepth 100000
namespace Go.Proofs.Ytnlopklbbajlbaa.Sw
open Go Go.Conc Go.ConcN Go.RowKit
open Go.ConcR (DC0 stA smA)
/-- WHILE IT LOOKS AT AN ANSWER: what has been seen (the value sv), the answer (vo). -/
structure IJ (W : World) (A : Nat) (S : List ByteArray) (M : Option Nat) (sn : List ByteArray) (sv vo : Value) (out : List ByteArray) (Shun : Loc → Prop) (w : World) : Prop where
  lw : Lw W w
  al : AlAt w A S M
  aH : W.heap.size ≤ A
  mH : ∀ mp, M = some mp → W.heap.size ≤ mp
  row : w.ownsRow W.heap.size 9 1 sv sn.length (sn.map Value.string)
  out : w.ownsRow W.heap.size 9 1 vo out.length (out.map Value.string)
  ne : ∀ g, vo.ownBlock = some g → sv.ownBlock ≠ some g
  sh : ShunOk W.heap.size Shun w
theorem row_blk {w : World} {b n : Nat} {e : TypeId} {v : Value} {xs : List Value} (h : w.ownsRow b e 1 v n xs) {g : Nat} (hg : v.ownBlock = some g) : ∃ cur, w.heap[g]? = some (.cells cur e (0, 0)) := by
  rcases h.2 with ⟨rfl, _⟩ | ⟨g', cap, cur, rfl, _, h1, _⟩
  · simp [Value.ownBlock] at hg
  · simp [Value.ownBlock] at hg
    subst hg
    exact ⟨cur, h1⟩
theorem AlAt.keep2 {w w' : World} {A : Nat} {S : List ByteArray} {M : Option Nat} (h : AlAt w A S M) (hA : w'.heap[A]? = w.heap[A]?) (hM : ∀ mp, M = some mp → w'.heap[mp]? = w.heap[mp]?) : AlAt w' A S M := by
  obtain ⟨h1, h2, h3, h4⟩ := h
  refine ⟨by rw [hA]; exact h1, h2, h3, fun mp hm => ?_⟩
  obtain ⟨es, ck, e1, e2⟩ := h4 mp hm
  exact ⟨es, ck, by rw [hM mp hm]; exact e1, e2⟩
theorem IJ.app {W w w' : World} {A : Nat} {S : List ByteArray} {M : Option Nat} {sn : List ByteArray} {sv vo v' : Value} {out : List ByteArray} {Shun : Loc → Prop} {x : ByteArray} {ob : Obj} (h : IJ W A S M sn sv vo out Shun w) (h1 : w'.ownsRow W.heap.size 9 1 v' (sn.length + 1) (sn.map Value.string ++ [.string x])) (h2 : (w.alloc ob).grownBy w' sv.ownBlock) (h3 : v'.ownBlock = sv.ownBlock ∨ v'.ownBlock = some (w.alloc ob).heap.size) :
    IJ W A S M (sn ++ [x]) v' vo out Shun w' := by
  have keep : ∀ b, b < w.heap.size → sv.ownBlock ≠ some b → w'.heap[b]? = w.heap[b]? := fun b hb hn => by
    rw [h2.block b (by rw [alloc_size]; omega) (fun e => hn e.symm)]
    show (w.heap.push ob)[b]? = _
    rw [Array.getElem?_push, if_neg (by omega)]
  have lt : ∀ {b : Nat} {o : Obj}, w.heap[b]? = some o → b < w.heap.size := fun e => (Array.getElem?_eq_some_iff.1 e).1
  have typ : ∀ {b : Nat} {o : Obj}, w.heap[b]? = some o → (∀ cur, o ≠ .cells cur 9 (0, 0)) → sv.ownBlock ≠ some b := fun e hn hb => by
    obtain ⟨cur, e2⟩ := row_blk h.row hb
    rw [e] at e2
    exact hn cur (Option.some.inj e2)
  refine ⟨(h.lw.alloc ob).grown h2 (fun k hk => (h.row.lt k hk).1), h.al.keep2 (keep _ (lt h.al.1) (typ h.al.1 (by simp))) (fun mp hm => ?_), h.aH, h.mH, by simpa using h1, ?_, fun g hg => ?_, fun l hl => ?_⟩
  · obtain ⟨es, ck, e1, _⟩ := h.al.2.2.2 mp hm
    exact keep _ (lt e1) (typ e1 (by simp))
  · refine (h.out.alloc ob).kept h2 ?_
    rcases ho : vo.ownBlock with _ | g
    · exact .inl rfl
    · exact .inr (fun e => h.ne g ho e.symm)
  · have h4 := (h.out.lt g hg).2
    rcases h3 with h3 | h3
    · rw [h3]; exact h.ne g hg
    · rw [h3, alloc_size]
      intro e
      cases e
      omega
  · obtain ⟨ad, cs, fz, e1, e2, e3⟩ := h.sh l hl
    exact ⟨ad, cs, fz, e1, e2, by rw [keep _ (lt e3) (typ e3 (by simp))]; exact e3⟩
theorem IJ.at {W w : World} {A : Nat} {S : List ByteArray} {M : Option Nat} {sn : List ByteArray} {sv vo : Value} {out : List ByteArray} {Shun : Loc → Prop} (h : IJ W A S M sn sv vo out Shun w) (d : Nat) : IJ W A S M sn sv vo out Shun (w.at d) := ⟨h.lw.at d, h.al, h.aH, h.mH, h.row, h.out, h.ne, h.sh⟩

noncomputable def LL3j : Code := ((blockOf 4 body3).bind findLoop).getD .skip
noncomputable def LL3ju : Code := ((blockOf 4 body3).bind findLoop).getD .skip
noncomputable def REST32 : Code := (tailFrom 32 body3).getD .skip
section
variable {Shun : Loc → Prop} {Stop : Goroutine → World → Prop} {W : World} {lp wp : Option Addr} {L lc K wc : Nat} {rq : Nat → Option Addr} {rn rc : Nat → Nat} {s : Nat → Nat → ByteArray} {wk : Nat → Int}
variable {A : Nat} {S' : List ByteArray} {M' : Option Nat} {sn : List ByteArray} {i : Nat} {op : Option Addr} {oc : Nat}
set_option maxHeartbeats 32000000 in
/-- ████ THE LOOP OVER A ROW's NAMES. ████ -/
theorem innerL (hI : Inp W lp L wp K rq rn rc s wk) (hsm : Small L rn) (hi : i < L) (hsl : sn.length ≤ 9000)
    (hnext : ∃ m, ∀ (w : World) (sv : Value) (t2 t3 t6 t7 t8 t11 t15 t16 t17 t18 t19 t20 t21 t22 t23 t24 t25 t26 t27 t28 t29 t30 t31 t32 t33 t34 t35 t36 t37 t38 t39 t40 t41 t42 t43 t44 t45 t46 t47 t48 t49 t50 t51 t52 t53 t54 t55 t56 t57 t58 t59 t60 t61 t62 t63 t64 t65 t66 t67 t68 t69 t70 t71 t72 t73 t74 t75 t76 t77 t78 t79 t80 t81 t82 t83 t84 t85 t86 t87 t88 t89 t90 t91 t92 t93 t94 t95 t96 t97 t98 t99 t100 t101 t102 t103 t104 t105 t106 t107 t108 t109 t110 t111 t112 t113 t114 t115 t116 t117 t118 t119 t120 t121 t122 t123 t124 t125 t126 t127 t128 t129 t130 t131 : Value), IJ W A S' M' (sn ++ newF sn (conF (s i) (rn i))) sv (.slice op (newF sn (conF (s i) (rn i))).length oc) (newF sn (conF (s i) (rn i))) Shun w → Goes Try.prog true AtRel (DL Shun) Stop m (G ((Go.Conc.base 3).at ⟨#[.slice lp L lc, .slice wp K wc, t2, t3, .bool false, .pointer (some ⟨A, 0, none⟩), t6, t7, t8, sv, .int .i64 (i : Int), t11, .slice op (newF sn (conF (s i) (rn i))).length oc, .int .i64 ((newF sn (conF (s i) (rn i))).length : Int), .int .i64 (rn i : Int), t15, t16, t17, t18, t19, t20, t21, t22, t23, t24, t25, t26, t27, t28, t29, t30, t31, t32, t33, t34, t35, t36, t37, t38, t39, t40, t41, t42, t43, t44, t45, t46, t47, t48, t49, t50, t51, t52, t53, t54, t55, t56, t57, t58, t59, t60, t61, t62, t63, t64, t65, t66, t67, t68, t69, t70, t71, t72, t73, t74, t75, t76, t77, t78, t79, t80, t81, t82, t83, t84, t85, t86, t87, t88, t89, t90, t91, t92, t93, t94, t95, t96, t97, t98, t99, t100, t101, t102, t103, t104, t105, t106, t107, t108, t109, t110, t111, t112, t113, t114, t115, t116, t117, t118, t119, t120, t121, t122, t123, t124, t125, t126, t127, t128, t129, t130, t131], []⟩ [.code REST32, .inBlock 3, .code REST18, .inLoop LL3h, .inBlock 2, .code REST34]) []) w) :
    ∀ rem j, j + rem = rn i → ∃ m, ∀ (w : World) (sv : Value) (t2 t3 t6 t7 t8 t11 t15 t16 t17 t18 t19 t20 t21 t22 t23 t24 t25 t26 t27 t28 t29 t30 t31 t32 t33 t34 t35 t36 t37 t38 t39 t40 t41 t42 t43 t44 t45 t46 t47 t48 t49 t50 t51 t52 t53 t54 t55 t56 t57 t58 t59 t60 t61 t62 t63 t64 t65 t66 t67 t68 t69 t70 t71 t72 t73 t74 t75 t76 t77 t78 t79 t80 t81 t82 t83 t84 t85 t86 t87 t88 t89 t90 t91 t92 t93 t94 t95 t96 t97 t98 t99 t100 t101 t102 t103 t104 t105 t106 t107 t108 t109 t110 t111 t112 t113 t114 t115 t116 t117 t118 t119 t120 t121 t122 t123 t124 t125 t126 t127 t128 t129 t130 t131 : Value), IJ W A S' M' (sn ++ newF sn (conF (s i) j)) sv (.slice op (newF sn (conF (s i) (rn i))).length oc) (newF sn (conF (s i) (rn i))) Shun w → Goes Try.prog true AtRel (DL Shun) Stop m (G ((Go.Conc.base 3).at ⟨#[.slice lp L lc, .slice wp K wc, t2, t3, .bool false, .pointer (some ⟨A, 0, none⟩), t6, t7, t8, sv, .int .i64 (i : Int), t11, .slice op (newF sn (conF (s i) (rn i))).length oc, .int .i64 ((newF sn (conF (s i) j)).length : Int), .int .i64 (j : Int), t15, t16, t17, t18, t19, t20, t21, t22, t23, t24, t25, t26, t27, t28, t29, t30, t31, t32, t33, t34, t35, t36, t37, t38, t39, t40, t41, t42, t43, t44, t45, t46, t47, t48, t49, t50, t51, t52, t53, t54, t55, t56, t57, t58, t59, t60, t61, t62, t63, t64, t65, t66, t67, t68, t69, t70, t71, t72, t73, t74, t75, t76, t77, t78, t79, t80, t81, t82, t83, t84, t85, t86, t87, t88, t89, t90, t91, t92, t93, t94, t95, t96, t97, t98, t99, t100, t101, t102, t103, t104, t105, t106, t107, t108, t109, t110, t111, t112, t113, t114, t115, t116, t117, t118, t119, t120, t121, t122, t123, t124, t125, t126, t127, t128, t129, t130, t131], []⟩ [.code LL3j, .inLoop LL3j, .inBlock 4, .code REST32, .inBlock 3, .code REST18, .inLoop LL3h, .inBlock 2, .code REST34]) []) w := by
  have hD := dl_idle Shun
  have hri := hsm.2 i hi
  have hLs := hsm.1
  obtain ⟨lb, lo, rfl, hl⟩ := hI.l (by omega)
  intro rem
  induction rem with
  | zero =>
    intro j hj
    obtain rfl : j = rn i := by omega
    obtain ⟨m, hm⟩ := hnext
    refine ⟨m + 60, fun w sv t2 t3 t6 t7 t8 t11 t15 t16 t17 t18 t19 t20 t21 t22 t23 t24 t25 t26 t27 t28 t29 t30 t31 t32 t33 t34 t35 t36 t37 t38 t39 t40 t41 t42 t43 t44 t45 t46 t47 t48 t49 t50 t51 t52 t53 t54 t55 t56 t57 t58 t59 t60 t61 t62 t63 t64 t65 t66 t67 t68 t69 t70 t71 t72 t73 t74 t75 t76 t77 t78 t79 t80 t81 t82 t83 t84 t85 t86 t87 t88 t89 t90 t91 t92 t93 t94 t95 t96 t97 t98 t99 t100 t101 t102 t103 t104 t105 t106 t107 t108 t109 t110 t111 t112 t113 t114 t115 t116 t117 t118 t119 t120 t121 t122 t123 t124 t125 t126 t127 t128 t129 t130 t131 h => ?_⟩
    rw [show LL3j = LL3ju from rfl]
    simp (config := { decide := true }) only [LL3ju, REST32, REST18, REST34, regionOf, tailFrom, firstId, findLoop, blockOf, body3, Try.f3, Option.getD_some, Option.bind_some, reduceIte, Option.some.injEq, Nat.reduceEqDiff, reduceCtorEq]
    ((iterate 2 (refine LG.ctl hD rfl (fun _ => stepG_seq) ?_)); refine LG.ctl hD rfl (fun _ => stepG_region) ?_; simp only [List.size_toArray, List.length_cons, List.length_nil, Nat.reduceAdd, Nat.zero_add, List.range, List.range.loop]; (iterate 4 (refine LG.value hD _ rfl rfl (by k_ne) (fun _ => by go_simp <;> rfl) (fun _ => by simp [go_sem, *]) ?_; walk_nrm)))
    refine LG.ld 26 (by simp) rfl rfl (by k_ne) rfl rfl (h.lw.cell (hl i hi)) (h.sh.below (block_lt (hl i hi))) ?_
    walk_nrm
    ((iterate 2 (refine LG.value hD _ rfl rfl (by k_ne) (fun _ => by go_simp <;> rfl) (fun _ => by simp [go_sem, *]) ?_; walk_nrm)); refine LG.ctl hD rfl (fun _ => stepG_region_end) ?_; refine LG.ctl hD rfl (fun _ => stepG_cond (t := false) rfl) ?_; simp only [if_true, if_false, Bool.false_eq_true, ↓reduceIte]; refine LG.ctl hD rfl (fun _ => stepG_exit rfl) ?_)
    exact Go.ConcM.goes_le (n := m) (by omega) (hm w sv _ _ _ _ _ _ _ _ _ _ _ _ _ _ _ _ _ _ _ _ _ _ _ _ _ _ _ _ _ _ _ _ _ _ _ _ _ _ _ _ _ _ _ _ _ _ _ _ _ _ _ _ _ _ _ _ _ _ _ _ _ _ _ _ _ _ _ _ _ _ _ _ _ _ _ _ _ _ _ _ _ _ _ _ _ _ _ _ _ _ _ _ _ _ _ _ _ _ _ _ _ _ _ _ _ _ _ _ _ _ _ _ _ _ _ _ _ _ _ _ _ _ _ h)
  | succ rem ih =>
    intro j hj
    obtain ⟨m, hm⟩ := ih (j + 1) (by omega)
    have hlt : j < rn i := by omega
    obtain ⟨rb, ro, hrq, hr⟩ := hI.r i hi (by omega)
    have hdl := newF_len sn (s i) j
    refine ⟨m + 400 + 60 * ((sn ++ newF sn (conF (s i) j)).length + 1) + 40 + 100, fun w sv t2 t3 t6 t7 t8 t11 t15 t16 t17 t18 t19 t20 t21 t22 t23 t24 t25 t26 t27 t28 t29 t30 t31 t32 t33 t34 t35 t36 t37 t38 t39 t40 t41 t42 t43 t44 t45 t46 t47 t48 t49 t50 t51 t52 t53 t54 t55 t56 t57 t58 t59 t60 t61 t62 t63 t64 t65 t66 t67 t68 t69 t70 t71 t72 t73 t74 t75 t76 t77 t78 t79 t80 t81 t82 t83 t84 t85 t86 t87 t88 t89 t90 t91 t92 t93 t94 t95 t96 t97 t98 t99 t100 t101 t102 t103 t104 t105 t106 t107 t108 t109 t110 t111 t112 t113 t114 t115 t116 t117 t118 t119 t120 t121 t122 t123 t124 t125 t126 t127 t128 t129 t130 t131 h => ?_⟩
    rw [show LL3j = LL3ju from rfl]
    simp (config := { decide := true }) only [LL3ju, REST32, REST18, REST34, regionOf, tailFrom, firstId, findLoop, blockOf, body3, Try.f3, Option.getD_some, Option.bind_some, reduceIte, Option.some.injEq, Nat.reduceEqDiff, reduceCtorEq]
    have hl' := hl i hi
    rw [hrq] at hl'
    ((iterate 2 (refine LG.ctl hD rfl (fun _ => stepG_seq) ?_)); refine LG.ctl hD rfl (fun _ => stepG_region) ?_; simp only [List.size_toArray, List.length_cons, List.length_nil, Nat.reduceAdd, Nat.zero_add, List.range, List.range.loop]; (iterate 4 (refine LG.value hD _ rfl rfl (by k_ne) (fun _ => by go_simp <;> rfl) (fun _ => by simp [go_sem, *]) ?_; walk_nrm)))
    refine LG.ld 26 (by simp) rfl rfl (by k_ne) rfl rfl (h.lw.cell hl') (h.sh.below (block_lt hl')) ?_
    walk_nrm
    ((iterate 2 (refine LG.value hD _ rfl rfl (by k_ne) (fun _ => by go_simp <;> rfl) (fun _ => by simp [go_sem, *]) ?_; walk_nrm)); refine LG.ctl hD rfl (fun _ => stepG_region_end) ?_; refine LG.ctl hD rfl (fun _ => stepG_cond (t := true) rfl) ?_; simp only [if_true, if_false, Bool.false_eq_true, ↓reduceIte]; refine LG.ctl hD rfl (fun _ => stepG_skip) ?_; refine LG.ctl hD rfl (fun _ => stepG_seq) ?_; refine LG.ctl hD rfl (fun _ => stepG_block) ?_; (iterate 2 (refine LG.ctl hD rfl (fun _ => stepG_seq) ?_)); refine LG.ctl hD rfl (fun _ => stepG_region) ?_; simp only [List.size_toArray, List.length_cons, List.length_nil, Nat.reduceAdd, Nat.zero_add, List.range, List.range.loop]; (iterate 4 (refine LG.value hD _ rfl rfl (by k_ne) (fun _ => by go_simp <;> rfl) (fun _ => by simp [go_sem, *]) ?_; walk_nrm)))
    refine LG.ld 26 (by simp) rfl rfl (by k_ne) rfl rfl (h.lw.cell hl') (h.sh.below (block_lt hl')) ?_
    walk_nrm
    ((iterate 2 (refine LG.value hD _ rfl rfl (by k_ne) (fun _ => by go_simp <;> rfl) (fun _ => by simp [go_sem, *]) ?_; walk_nrm)))
    refine LG.ld 9 (by simp) rfl rfl (by k_ne) rfl rfl (h.lw.cell (hr j hlt)) (h.sh.below (block_lt (hr j hlt))) ?_
    walk_nrm
    skip
    (refine LG.call hD rfl rfl (by k_ne) rfl Try.func7 nm7 rfl ?_; walk_nrmf Try.f7)
    refine goes_lt (seenAtL (m1 := m + 400) rfl h.row (fun ad had => h.sh.cell fun cs fz e => ?_) (by simp; omega) (fun r hr0 => ?_)) (by omega)
    · obtain ⟨cur, e2⟩ := row_blk h.row had.symm
      rw [e] at e2
      cases e2
    by_cases hx : s i j ∈ sn ++ newF sn (conF (s i) j)
    · have hr1 : 0 ≤ r := hr0.2 hx
      rw [newF_step_in hx] at hm
      walk_nrm
      (refine LG.value hD _ rfl rfl (by k_ne) (fun _ => by go_simp <;> rfl) (fun _ => by simp [go_sem, *]) ?_; walk_nrm; refine LG.ctl hD rfl (fun _ => stepG_region_end) ?_; refine LG.ctl hD rfl (fun _ => stepG_cond (t := true) rfl) ?_; simp only [if_true, if_false, Bool.false_eq_true, ↓reduceIte]; refine LG.ctl hD rfl (fun _ => stepG_exit rfl) ?_; refine LG.ctl hD rfl (fun _ => stepG_region) ?_; simp only [List.size_toArray, List.length_cons, List.length_nil, Nat.reduceAdd, Nat.zero_add, List.range, List.range.loop]; (iterate 3 (refine LG.value hD _ rfl rfl (by k_ne) (fun _ => by go_simp <;> rfl) (fun _ => by simp [go_sem, *]) ?_; walk_nrm)); refine LG.ctl hD rfl (fun _ => stepG_region_end) ?_)
      refine LG.ctl hD rfl (fun _ => stepG_inLoop) ?_
      rw [show IntKind.i64.wrap ((j : Int) + 1) = ((j + 1 : Nat) : Int) from by rw [IntKind.wrap_i64]; omega]
      exact Go.ConcM.goes_le (n := m) (by omega) (hm w sv _ _ _ _ _ _ _ _ _ _ _ _ _ _ _ _ _ _ _ _ _ _ _ _ _ _ _ _ _ _ _ _ _ _ _ _ _ _ _ _ _ _ _ _ _ _ _ _ _ _ _ _ _ _ _ _ _ _ _ _ _ _ _ _ _ _ _ _ _ _ _ _ _ _ _ _ _ _ _ _ _ _ _ _ _ _ _ _ _ _ _ _ _ _ _ _ _ _ _ _ _ _ _ _ _ _ _ _ _ _ _ _ _ _ _ _ _ _ _ _ _ _ _ h)
    · have hr1 : ¬ 0 ≤ r := fun e => hx (hr0.1 e)
      have hat := newF_at hlt hx
      have hklt := (List.getElem?_eq_some_iff.1 hat).1
      rw [newF_step_out hx, ← List.append_assoc] at hm
      walk_nrm
      (refine LG.value hD _ rfl rfl (by k_ne) (fun _ => by go_simp <;> rfl) (fun _ => by simp [go_sem, *]) ?_; walk_nrm; refine LG.ctl hD rfl (fun _ => stepG_region_end) ?_; refine LG.ctl hD rfl (fun _ => stepG_cond (t := false) rfl) ?_; simp only [if_true, if_false, Bool.false_eq_true, ↓reduceIte]; refine LG.ctl hD rfl (fun _ => stepG_skip) ?_; refine LG.ctl hD rfl (fun _ => stepG_seq) ?_; refine LG.ctl hD rfl (fun _ => stepG_region) ?_; simp only [List.size_toArray, List.length_cons, List.length_nil, Nat.reduceAdd, Nat.zero_add, List.range, List.range.loop]; (iterate 4 (refine LG.value hD _ rfl rfl (by k_ne) (fun _ => by go_simp <;> rfl) (fun _ => by simp [go_sem, *]) ?_; walk_nrm)))
      refine LG.ld 26 (by simp) rfl rfl (by k_ne) rfl rfl (h.lw.cell hl') (h.sh.below (block_lt hl')) ?_
      walk_nrm
      ((iterate 2 (refine LG.value hD _ rfl rfl (by k_ne) (fun _ => by go_simp <;> rfl) (fun _ => by simp [go_sem, *]) ?_; walk_nrm)))
      refine LG.ld 9 (by simp) rfl rfl (by k_ne) rfl rfl (h.lw.cell (hr j hlt)) (h.sh.below (block_lt (hr j hlt))) ?_
      walk_nrm
      skip
      refine LG.bs9 rfl rfl (by k_ne) rfl rfl ?_
      walk_nrm
      skip
      refine LG.app2 26 9 info9 (.string ⟨#[]⟩) 16 W.heap.size u26 i9 i9z i9s i9b rfl (u := .string (s i j)) rfl rfl (by k_ne) rfl rfl rfl (h.row.alloc _) (cell_h (off := 0) (cs := #[.string (s i j)]) (t := 9) (fz := (0, 0)) ?_ rfl) rfl (by simp only [maxLen]; simp; omega) (by simp; omega) (by rw [alloc_size]; have := h.lw.size; omega) (fun ad had => h.sh.far (by omega)) (fun ad had => h.sh.cell fun cs fz e => ?_) (fun v' w' h1 h2 h3 => ?_)
      · show (w.heap.push _)[w.heap.size]? = _
        simp
      · obtain ⟨cur, e2⟩ := row_blk h.row had.symm
        rw [e] at e2
        cases e2
      have h' := h.app h1 h2 h3
      clear h1 h2 h3
      walk_nrm
      (refine LG.value hD _ rfl rfl (by k_ne) (fun _ => by go_simp <;> rfl) (fun _ => by simp [go_sem, *]) ?_; walk_nrm; refine LG.ctl hD rfl (fun _ => stepG_region_end) ?_; (iterate 2 (refine LG.ctl hD rfl (fun _ => stepG_seq) ?_)))
      refine LG.draw (ops := ops29) (fun w w' e => ⟨by rw [e]; exact Nat.le_refl _, by simp⟩) dag29 (fun l hl0 hlen => ?_)
      have hlen : l.length ≤ 18 := hlen
      obtain ⟨ob, hob, hoc⟩ : ∃ ob, op = some ⟨ob, 0, none⟩ ∧ w'.cell? ⟨ob, 0 + (newF sn (conF (s i) j)).length, none⟩ = some (.string (s i j)) := by
        have hout := h'.out
        rcases hout.2 with ⟨e, h0⟩ | ⟨g, cap, cur, e, _⟩
        · omega
        · cases e
          refine ⟨g, rfl, ?_⟩
          rw [Nat.zero_add, hout.cellAt _ (by omega), List.getElem?_map, hat]
          rfl
      have hobs : ∀ q, ¬ Shun (.cell ⟨ob, q, none⟩) := fun q => h'.sh.cell fun cs fz e => by
        obtain ⟨cur, e2⟩ := row_blk h'.out (g := ob) (by rw [hob]; rfl)
        rw [e] at e2
        cases e2
      subst hob
      refine Go.ConcM.goes_le (n := m + 60 + l.length) (by omega) (r29 (x := s i j) hi hlt hklt (h'.lw.cell hl') (h'.lw.cell (hr j hlt)) hoc (h'.sh.below (block_lt hl')) (h'.sh.below (block_lt (hr j hlt))) (hobs _) _ _ _ _ _ _ _ _ _ _ _ _ _ _ _ _ _ _ _ _ _ _ _ _ _ _ _ _ _ _ _ _ _ _ _ _ _ _ _ _ _ _ _ _ _ _ _ _ _ _ _ _ _ _ _ _ _ _ _ _ _ _ _ _ _ _ _ _ _ _ _ _ _ _ _ _ _ _ _ _ _ _ _ _ _ _ _ _ _ _ _ _ _ _ _ _ _ _ _ _ _ _ _ _ _ _ _ _ _ _ _ _ _ _ _ _ _ _ _ _ _ _ _ _ _ ?_ l false false false false false false false false false false false false false false false false false false hl0)
      simp (config := { decide := true }) only [ops29, regionOf, tailFrom, firstId, findLoop, blockOf, body3, Try.f3, Option.getD_some, Option.bind_some, reduceIte, Option.some.injEq, Nat.reduceEqDiff, reduceCtorEq]
      (refine LG.ctl hD rfl (fun _ => stepG_region_end) ?_; refine LG.ctl hD rfl (fun _ => stepG_cond (t := false) rfl) ?_; simp only [if_true, if_false, Bool.false_eq_true, ↓reduceIte]; refine LG.ctl hD rfl (fun _ => stepG_skip) ?_; refine LG.ctl hD rfl (fun _ => stepG_region) ?_; simp only [List.size_toArray, List.length_cons, List.length_nil, Nat.reduceAdd, Nat.zero_add, List.range, List.range.loop]; (iterate 3 (refine LG.value hD _ rfl rfl (by k_ne) (fun _ => by go_simp <;> rfl) (fun _ => by simp [go_sem, *]) ?_; walk_nrm)); refine LG.ctl hD rfl (fun _ => stepG_region_end) ?_; refine LG.ctl hD rfl (fun _ => stepG_inBlock) ?_; refine LG.ctl hD rfl (fun _ => stepG_region) ?_; simp only [List.size_toArray, List.length_cons, List.length_nil, Nat.reduceAdd, Nat.zero_add, List.range, List.range.loop]; (iterate 3 (refine LG.value hD _ rfl rfl (by k_ne) (fun _ => by go_simp <;> rfl) (fun _ => by simp [go_sem, *]) ?_; walk_nrm)); refine LG.ctl hD rfl (fun _ => stepG_region_end) ?_)
      refine LG.ctl hD rfl (fun _ => stepG_inLoop) ?_
      rw [show IntKind.i64.wrap ((j : Int) + 1) = ((j + 1 : Nat) : Int) from by rw [IntKind.wrap_i64]; omega, show IntKind.i64.wrap (((newF sn (conF (s i) j)).length : Int) + 1) = ((newF sn (conF (s i) j) ++ [s i j]).length : Int) from by rw [IntKind.wrap_i64, List.length_append, List.length_singleton]; omega]
      exact Go.ConcM.goes_le (n := m) (by omega) (hm w' v' _ _ _ _ _ _ _ _ _ _ _ _ _ _ _ _ _ _ _ _ _ _ _ _ _ _ _ _ _ _ _ _ _ _ _ _ _ _ _ _ _ _ _ _ _ _ _ _ _ _ _ _ _ _ _ _ _ _ _ _ _ _ _ _ _ _ _ _ _ _ _ _ _ _ _ _ _ _ _ _ _ _ _ _ _ _ _ _ _ _ _ _ _ _ _ _ _ _ _ _ _ _ _ _ _ _ _ _ _ _ _ _ _ _ _ _ _ _ _ _ _ _ _ h')
end
end Go.Proofs.Ytnlopklbbajlbaa.Sw

set_option linter.unusedVariables false
set_option linter.unusedSimpArgs false
set_option maxRecDepth 100000
namespace Go.Proofs.Ytnlopklbbajlbaa.Sw
open Go Go.Conc Go.ConcN Go.RowKit
open Go.ConcR (DC0 stA smA)
section
variable {Shun : Loc → Prop} {W : World} {lp wp : Option Addr} {L lc K wc : Nat} {rq : Nat → Option Addr} {rn rc : Nat → Nat} {s : Nat → Nat → ByteArray} {wk : Nat → Int}
variable {A : Nat} {S' : List ByteArray} {M' : Option Nat} {sn : List ByteArray} {i : Nat} {op : Option Addr} {oc : Nat}
set_option maxHeartbeats 32000000 in
/-- ████ BEHIND A See OF THE LOOP. ████ -/
theorem segR (hI : Inp W lp L wp K rq rn rc s wk) (hsm : Small L rn) (hi : i < L) (hsl : sn.length ≤ 300 * i) (hnd : sn.Nodup) (hmem : ∀ x, x ∈ S' ↔ x ∈ sn ∨ x ∈ conF (s i) (rn i)) {w : World} {sv : Value} (t2 t3 t6 t7 t8 t11 t12 t13 t14 t15 t16 t17 t18 t19 t20 t21 t22 t23 t24 t25 t26 t27 t28 t29 t30 t31 t32 t33 t34 t35 t36 t37 t38 t39 t40 t41 t42 t43 t44 t45 t46 t47 t48 t49 t50 t51 t52 t53 t54 t55 t56 t57 t58 t59 t60 t61 t62 t63 t64 t65 t66 t67 t68 t69 t70 t71 t72 t73 t74 t75 t76 t77 t78 t79 t80 t81 t82 t83 t84 t85 t86 t87 t88 t89 t90 t91 t92 t93 t94 t95 t96 t97 t98 t99 t100 t101 t102 t103 t104 t105 t106 t107 t108 t109 t110 t111 t112 t113 t114 t115 t116 t117 t118 t119 t120 t121 t122 t123 t124 t125 t126 t127 t128 t129 t130 t131 : Value) (h : IJ W A S' M' (sn) sv (.slice op (newF sn (conF (s i) (rn i))).length oc) (newF sn (conF (s i) (rn i))) Shun w) :
    ∃ m, Goes Try.prog true AtRel (DL Shun) (fun g w => FinL W Shun g w ∨ (i + 1 < L ∧ CallI W lp L lc wp K wc rq rn rc (i + 1) Shun g w)) m (G ((Go.Conc.base 3).at ((⟨#[.slice lp L lc, .slice wp K wc, t2, t3, .bool false, .pointer (some ⟨A, 0, none⟩), t6, t7, t8, sv, .int .i64 (i : Int), t11, t12, t13, t14, t15, t16, t17, t18, t19, t20, t21, t22, t23, t24, t25, t26, t27, t28, t29, t30, t31, t32, t33, t34, t35, t36, t37, t38, t39, t40, t41, t42, t43, t44, t45, t46, t47, t48, t49, t50, t51, t52, t53, t54, t55, t56, t57, t58, t59, t60, t61, t62, t63, t64, t65, t66, t67, t68, t69, t70, t71, t72, t73, t74, t75, t76, t77, t78, t79, t80, t81, t82, t83, t84, t85, t86, t87, t88, t89, t90, t91, t92, t93, t94, t95, t96, t97, t98, t99, t100, t101, t102, t103, t104, t105, t106, t107, t108, t109, t110, t111, t112, t113, t114, t115, t116, t117, t118, t119, t120, t121, t122, t123, t124, t125, t126, t127, t128, t129, t130, t131], []⟩ : Act).put ((ops22[6]?).bind (·.dst)) (.slice op (newF sn (conF (s i) (rn i))).length oc)) (.inRegion ops22 [7] :: [.code REST23, .inBlock 3, .code REST18, .inLoop LL3h, .inBlock 2, .code REST34])) []) w := by
  have hD := dl_idle Shun
  have hri := hsm.2 i hi
  have hLs := hsm.1
  have hdl := newF_len sn (s i) (rn i)
  have hlen : S'.length = (sn ++ newF sn (conF (s i) (rn i))).length := nodup_len h.al.2.1 (newF_nodup hnd (conF_nodup _ _)) fun x => by rw [hmem x, newF_mem]
  obtain ⟨m0, hm0⟩ := segI (Shun := Shun) (lc := lc) (wc := wc) hI
  obtain ⟨m, hm⟩ := innerL (Shun := Shun) (A := A) (S' := S') (M' := M') (lc := lc) (wp := wp) (K := K) (wc := wc) (op := op) (oc := oc) hI hsm hi (by omega : sn.length ≤ 9000) (Stop := fun g w => FinL W Shun g w ∨ (i + 1 < L ∧ CallI W lp L lc wp K wc rq rn rc (i + 1) Shun g w)) (by
    refine ⟨m0 + 300, fun w sv t2 t3 t6 t7 t8 t11 t15 t16 t17 t18 t19 t20 t21 t22 t23 t24 t25 t26 t27 t28 t29 t30 t31 t32 t33 t34 t35 t36 t37 t38 t39 t40 t41 t42 t43 t44 t45 t46 t47 t48 t49 t50 t51 t52 t53 t54 t55 t56 t57 t58 t59 t60 t61 t62 t63 t64 t65 t66 t67 t68 t69 t70 t71 t72 t73 t74 t75 t76 t77 t78 t79 t80 t81 t82 t83 t84 t85 t86 t87 t88 t89 t90 t91 t92 t93 t94 t95 t96 t97 t98 t99 t100 t101 t102 t103 t104 t105 t106 t107 t108 t109 t110 t111 t112 t113 t114 t115 t116 t117 t118 t119 t120 t121 t122 t123 t124 t125 t126 t127 t128 t129 t130 t131 h => ?_⟩
    simp (config := { decide := true }) only [REST32, REST18, REST34, regionOf, tailFrom, firstId, findLoop, blockOf, body3, Try.f3, Option.getD_some, Option.bind_some, reduceIte, Option.some.injEq, Nat.reduceEqDiff, reduceCtorEq]
    have hc : w.cell? ⟨A, 6, none⟩ = some (.int .i64 ((sn ++ newF sn (conF (s i) (rn i))).length : Int)) := by
      rw [cell_h h.al.1 (off := 6) rfl, hlen]
      rfl
    have hsv : ∃ p c, sv = .slice p (sn ++ newF sn (conF (s i) (rn i))).length c := by
      rcases h.row.2 with ⟨e, h0⟩ | ⟨g, cap, cur, e, _⟩
      · exact ⟨none, 0, by rw [e, h0]⟩
      · exact ⟨_, _, e⟩
    obtain ⟨p, c, rfl⟩ := hsv
    (refine LG.ctl hD rfl (fun _ => stepG_seq) ?_; refine LG.ctl hD rfl (fun _ => stepG_region) ?_; simp only [List.size_toArray, List.length_cons, List.length_nil, Nat.reduceAdd, Nat.zero_add, List.range, List.range.loop]; (iterate 6 (refine LG.value hD _ rfl rfl (by k_ne) (fun _ => by go_simp <;> rfl) (fun _ => by simp [go_sem, *]) ?_; walk_nrm)))
    (refine LG.call hD rfl rfl (by k_ne) rfl Try.func6 nm6 rfl ?_; walk_nrmf Try.f6)
    refine Go.ConcM.goes_le (n := m0 + 100 + 60) (by omega) (seenL hc (h.sh.cell fun cs fz e => by rw [h.al.1] at e; cases e) ?_)
    walk_nrm
    ((iterate 4 (refine LG.value hD _ rfl rfl (by k_ne) (fun _ => by go_simp <;> rfl) (fun _ => by simp [go_sem, *]) ?_; walk_nrm)); refine LG.ctl hD rfl (fun _ => stepG_region_end) ?_; refine LG.ctl hD rfl (fun _ => stepG_cond (t := false) rfl) ?_; simp only [if_true, if_false, Bool.false_eq_true, ↓reduceIte]; refine LG.ctl hD rfl (fun _ => stepG_skip) ?_; refine LG.ctl hD rfl (fun _ => stepG_inBlock) ?_; refine LG.ctl hD rfl (fun _ => stepG_region) ?_; simp only [List.size_toArray, List.length_cons, List.length_nil, Nat.reduceAdd, Nat.zero_add, List.range, List.range.loop]; (iterate 3 (refine LG.value hD _ rfl rfl (by k_ne) (fun _ => by go_simp <;> rfl) (fun _ => by simp [go_sem, *]) ?_; walk_nrm)); refine LG.ctl hD rfl (fun _ => stepG_region_end) ?_)
    refine LG.ctl hD rfl (fun _ => stepG_inLoop) ?_
    rw [show IntKind.i64.wrap ((i : Int) + 1) = ((i + 1 : Nat) : Int) from by rw [IntKind.wrap_i64]; omega]
    have hO : LO W A S' M' (sn ++ newF sn (conF (s i) (rn i))) (.slice p (sn ++ newF sn (conF (s i) (rn i))).length c) w := ⟨h.lw, h.al, h.aH, h.mH, h.row, newF_nodup hnd (conF_nodup _ _), fun x => by rw [hmem x, newF_mem]⟩
    refine Go.ConcM.goes_le (n := m0) (by omega) (Go.ConcN.goes_mono (fun g w hh => ?_) (hm0 (i + 1) A S' M' _ _ w _ _ _ _ _ _ _ _ _ _ _ _ _ _ _ _ _ _ _ _ _ _ _ _ _ _ _ _ _ _ _ _ _ _ _ _ _ _ _ _ _ _ _ _ _ _ _ _ _ _ _ _ _ _ _ _ _ _ _ _ _ _ _ _ _ _ _ _ _ _ _ _ _ _ _ _ _ _ _ _ _ _ _ _ _ _ _ _ _ _ _ _ _ _ _ _ _ _ _ _ _ _ _ _ _ _ _ _ _ _ _ _ _ _ _ _ _ _ _ _ _ _ _ _ _ _ hi hO (by rw [List.length_append]; omega) h.sh))
    rcases hh with ⟨_, hh⟩ | hh
    · exact .inl hh
    · exact .inr hh) (rn i) 0 (by omega)
  refine ⟨m + 200, ?_⟩
  simp (config := { decide := true }) only [ops22, REST23, REST18, REST34, regionOf, tailFrom, firstId, findLoop, blockOf, body3, Try.f3, Option.getD_some, Option.bind_some, reduceIte, Option.some.injEq, Nat.reduceEqDiff, reduceCtorEq]
  walk_nrm
  (refine LG.value hD _ rfl rfl (by k_ne) (fun _ => by go_simp <;> rfl) (fun _ => by simp [go_sem, *]) ?_; walk_nrm; refine LG.ctl hD rfl (fun _ => stepG_region_end) ?_; refine LG.ctl hD rfl (fun _ => stepG_seq) ?_; refine LG.ctl hD rfl (fun _ => stepG_region) ?_; simp only [List.size_toArray, List.length_cons, List.length_nil, Nat.reduceAdd, Nat.zero_add, List.range, List.range.loop]; refine LG.value hD _ rfl rfl (by k_ne) (fun _ => by go_simp <;> rfl) (fun _ => by simp [go_sem, *]) ?_; walk_nrm; refine LG.ctl hD rfl (fun _ => stepG_region_end) ?_; (iterate 2 (refine LG.ctl hD rfl (fun _ => stepG_seq) ?_)); refine LG.ctl hD rfl (fun _ => stepG_region) ?_; simp only [List.size_toArray, List.length_cons, List.length_nil, Nat.reduceAdd, Nat.zero_add, List.range, List.range.loop]; refine LG.value hD _ rfl rfl (by k_ne) (fun _ => by go_simp <;> rfl) (fun _ => by simp [go_sem, *]) ?_; walk_nrm; refine LG.ctl hD rfl (fun _ => stepG_region_end) ?_; refine LG.ctl hD rfl (fun _ => stepG_block) ?_)
  refine LG.ctl hD rfl (fun _ => stepG_loop) ?_
  refine Go.ConcM.goes_le (n := m) (by omega) (hm w sv _ _ _ _ _ _ _ _ _ _ _ _ _ _ _ _ _ _ _ _ _ _ _ _ _ _ _ _ _ _ _ _ _ _ _ _ _ _ _ _ _ _ _ _ _ _ _ _ _ _ _ _ _ _ _ _ _ _ _ _ _ _ _ _ _ _ _ _ _ _ _ _ _ _ _ _ _ _ _ _ _ _ _ _ _ _ _ _ _ _ _ _ _ _ _ _ _ _ _ _ _ _ _ _ _ _ _ _ _ _ _ _ _ _ _ _ _ _ _ _ _ _ _ (by simpa [newF, conF] using h))
end
end Go.Proofs.Ytnlopklbbajlbaa.Sw
