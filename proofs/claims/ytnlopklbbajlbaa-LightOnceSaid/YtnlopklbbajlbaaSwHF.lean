/- LightOnce: append onto one row among several; the sum of the lengths; from the loop's head to a call of See (printed by tools/genhf.py). -/
import Derived.Test.YtnlopklbbajlbaaSwHE
import Derived.Maps.AppendAt
set_option linter.unusedVariables false
set_option linter.unusedSimpArgs false
set_option maxRecDepth 100000
namespace Go.Proofs.Ytnlopklbbajlbaa.Sw
open Go Go.Conc Go.ConcN Go.RowKit
open Go.ConcR (DC0 stA smA)
section
variable {Shun : Loc → Prop} {Stop : Goroutine → World → Prop} {n : Nat} {w : World} {b : Frame} {a : Act} {kk : List Item} {cs : List Frame} {ops : Array Oper} {i : Nat} {rest : List Nat} {o : Oper} {x y : Operand}
/-- append of one value, among several rows: it says where the new row lies. -/
theorem LG.app2 (t e : TypeId) (inf : TypeInfo) (zv : Value) (bytes base : Nat) (ht : Try.prog.underlying t = some (.slice e)) (hi : Try.prog.info? e = some inf) (hz0 : inf.zero = some zv) (hsize : inf.size = 1) (hby : inf.bytes = bytes) (hzs : zv.cells.size = 1)
    {v u : Value} {g c m : Nat} {xs : List Value} (ho : ops[i]? = some o) (hw : Region.wanted o (yielded ops a.tmps) = true) (hk : b.kind ≠ .early) (hop : o.op = .call { callee := .builtin .append, args := #[x, y], argTypes := #[t, t] }) (hx : a.eval x = v) (hy : a.eval y = .slice (some ⟨g, 0, none⟩) 1 c)
    (hown : w.ownsRow base e 1 v m xs) (hc : w.cell? ⟨g, 0, none⟩ = some u) (hu : u.oneCell' = true) (h63 : m + 1 ≤ maxLen) (hbytes : (m + 1) * bytes ≤ 140737488355328) (hbase : base ≤ w.heap.size)
    (hs1 : ∀ ad : Addr, ad.block = g → ¬ Shun (.cell ad)) (hs2 : ∀ ad : Addr, some ad.block = v.ownBlock → ¬ Shun (.cell ad))
    (k : ∀ v' w', w'.ownsRow base e 1 v' (m + 1) (xs ++ [u]) → w.grownBy w' v.ownBlock → (v'.ownBlock = v.ownBlock ∨ v'.ownBlock = some w.heap.size) → Goes Try.prog true AtRel (DL Shun) Stop n (G (b.at (a.put o.dst v') (.inRegion ops rest :: kk)) cs) w') :
    Goes Try.prog true AtRel (DL Shun) Stop (n + 1) (G (b.at a (.inRegion ops (i :: rest) :: kk)) cs) w := by
  refine Goes.step rfl fun w₁ r => ?_
  obtain ⟨d, rfl⟩ := r
  have hnews : ∀ (j : Nat) (u' : Value), [u][j]? = some u' → (w.at d).cell? ((⟨g, 0, none⟩ : Addr).add j) = some u' := fun j u' h => by
    cases j with
    | zero => simp at h; subst h; exact hc
    | succ j => simp at h
  have h1 : ∀ u' ∈ [u], u'.oneCell' = true := by simp [hu]
  obtain ⟨v', w', hrun, hown', hgr, _, hat⟩ := run_append_own_at (P := Try.prog) (w := w.at d) base t o.type e inf zv 1 bytes ht hi hz0 hsize hby hzs (by omega) v m xs hown ⟨g, 0, none⟩ 1 c [u] rfl hnews h1 h63 hbytes hbase
  have hev := events_append_where (P := Try.prog) (w.at d) base t o.type e inf zv 1 bytes ht hi hz0 hsize hby v m xs hown ⟨g, 0, none⟩ 1 c [u] rfl hnews h1 h63 hbytes
  have hr : (execOp a.eval o).run Try.prog (w.at d) = .ok (.value v') w' := by
    unfold execOp
    simp only [hop, resolve, invoke, builtin, Sem.run_bind, Sem.run_pure, Result.andThen_ok, List.map_toArray, List.map_cons, List.map_nil, hx, hy, hrun]
  rw [stepG_value ho hw hk hr]
  have hgr' : w.grownBy w' v.ownBlock := ⟨hgr.os, hgr.tape, hgr.output, hgr.size, hgr.block⟩
  refine ⟨⟨hgr'.size, fun ev he => ?_⟩, k v' w' hown' hgr' hat⟩
  have hm := mem_listed he
  rw [events_append_op x y t hop hx hy] at hm
  rcases hev ev hm with ⟨ad, h2, h3⟩ | ⟨mk, rfl, h3⟩
  · rcases h3 with ⟨_, h3⟩ | h3
    · have := block_lt hc
      have := hgr'.size
      exact evL_loc h2 (hs1 ad h3) (by simp only at *; omega)
    · obtain ⟨l1, l2⟩ := hown.lt ad.block h3.symm
      have := hgr'.size
      exact evL_loc h2 (hs2 ad h3) (by omega)
  · exact evL_room h3 _
end

noncomputable def LL3a : Code := ((blockOf 0 body3).bind findLoop).getD .skip
noncomputable def LL3au : Code := ((blockOf 0 body3).bind findLoop).getD .skip
noncomputable def LL3h : Code := ((blockOf 2 body3).bind findLoop).getD .skip
noncomputable def LL3hu : Code := ((blockOf 2 body3).bind findLoop).getD .skip
noncomputable def REST12a : Code := (tailFrom 12 body3).getD .skip
noncomputable def REST18 : Code := (tailFrom 18 body3).getD .skip
noncomputable def REST23 : Code := (tailFrom 23 body3).getD .skip
noncomputable def REST34 : Code := (tailFrom 34 body3).getD .skip
noncomputable def ops22 : Array Oper := (regionOf 22 body3).getD #[]

section
variable {Shun : Loc → Prop} {Stop : Goroutine → World → Prop} {W w : World} {lp wp : Option Addr} {L lc K wc : Nat} {rq : Nat → Option Addr} {rn rc : Nat → Nat} {s : Nat → Nat → ByteArray} {wk : Nat → Int}
set_option maxHeartbeats 16000000 in
/-- ████ THE SUM OF THE LENGTHS. ████ -/
theorem sumL (hI : Inp W lp L wp K rq rn rc s wk) (hw : Lw W w) (hS : ShunOk W.heap.size Shun w)
    (hnext : ∃ m, ∀ (t2 t3 t5 t6 t9 t10 t11 t12 t13 t14 t15 t16 t17 t18 t19 t20 t21 t22 t23 t24 t25 t26 t27 t28 t29 t30 t31 t32 t33 t34 t35 t36 t37 t38 t39 t40 t41 t42 t43 t44 t45 t46 t47 t48 t49 t50 t51 t52 t53 t54 t55 t56 t57 t58 t59 t60 t61 t62 t63 t64 t65 t66 t67 t68 t69 t70 t71 t72 t73 t74 t75 t76 t77 t78 t79 t80 t81 t82 t83 t84 t85 t86 t87 t88 t89 t90 t91 t92 t93 t94 t95 t96 t97 t98 t99 t100 t101 t102 t103 t104 t105 t106 t107 t108 t109 t110 t111 t112 t113 t114 t115 t116 t117 t118 t119 t120 t121 t122 t123 t124 t125 t126 t127 t128 t129 t130 t131 : Value), Goes Try.prog true AtRel (DL Shun) Stop m (G ((Go.Conc.base 3).at ⟨#[.slice lp L lc, .slice wp K wc, t2, t3, .bool false, t5, t6, .int .i64 (sumW rn L), .int .i64 (L : Int), t9, t10, t11, t12, t13, t14, t15, t16, t17, t18, t19, t20, t21, t22, t23, t24, t25, t26, t27, t28, t29, t30, t31, t32, t33, t34, t35, t36, t37, t38, t39, t40, t41, t42, t43, t44, t45, t46, t47, t48, t49, t50, t51, t52, t53, t54, t55, t56, t57, t58, t59, t60, t61, t62, t63, t64, t65, t66, t67, t68, t69, t70, t71, t72, t73, t74, t75, t76, t77, t78, t79, t80, t81, t82, t83, t84, t85, t86, t87, t88, t89, t90, t91, t92, t93, t94, t95, t96, t97, t98, t99, t100, t101, t102, t103, t104, t105, t106, t107, t108, t109, t110, t111, t112, t113, t114, t115, t116, t117, t118, t119, t120, t121, t122, t123, t124, t125, t126, t127, t128, t129, t130, t131], []⟩ [.code REST12a]) []) w) :
    ∀ rem i, i + rem = L → ∃ m, ∀ (t2 t3 t5 t6 t9 t10 t11 t12 t13 t14 t15 t16 t17 t18 t19 t20 t21 t22 t23 t24 t25 t26 t27 t28 t29 t30 t31 t32 t33 t34 t35 t36 t37 t38 t39 t40 t41 t42 t43 t44 t45 t46 t47 t48 t49 t50 t51 t52 t53 t54 t55 t56 t57 t58 t59 t60 t61 t62 t63 t64 t65 t66 t67 t68 t69 t70 t71 t72 t73 t74 t75 t76 t77 t78 t79 t80 t81 t82 t83 t84 t85 t86 t87 t88 t89 t90 t91 t92 t93 t94 t95 t96 t97 t98 t99 t100 t101 t102 t103 t104 t105 t106 t107 t108 t109 t110 t111 t112 t113 t114 t115 t116 t117 t118 t119 t120 t121 t122 t123 t124 t125 t126 t127 t128 t129 t130 t131 : Value), Goes Try.prog true AtRel (DL Shun) Stop m (G ((Go.Conc.base 3).at ⟨#[.slice lp L lc, .slice wp K wc, t2, t3, .bool false, t5, t6, .int .i64 (sumW rn i), .int .i64 (i : Int), t9, t10, t11, t12, t13, t14, t15, t16, t17, t18, t19, t20, t21, t22, t23, t24, t25, t26, t27, t28, t29, t30, t31, t32, t33, t34, t35, t36, t37, t38, t39, t40, t41, t42, t43, t44, t45, t46, t47, t48, t49, t50, t51, t52, t53, t54, t55, t56, t57, t58, t59, t60, t61, t62, t63, t64, t65, t66, t67, t68, t69, t70, t71, t72, t73, t74, t75, t76, t77, t78, t79, t80, t81, t82, t83, t84, t85, t86, t87, t88, t89, t90, t91, t92, t93, t94, t95, t96, t97, t98, t99, t100, t101, t102, t103, t104, t105, t106, t107, t108, t109, t110, t111, t112, t113, t114, t115, t116, t117, t118, t119, t120, t121, t122, t123, t124, t125, t126, t127, t128, t129, t130, t131], []⟩ [.code LL3a, .inLoop LL3a, .inBlock 0, .code REST12a]) []) w := by
  have hD := dl_idle Shun
  intro rem
  induction rem with
  | zero =>
    intro i hi
    obtain rfl : i = L := by omega
    obtain ⟨m, hm⟩ := hnext
    refine ⟨m + 40, fun t2 t3 t5 t6 t9 t10 t11 t12 t13 t14 t15 t16 t17 t18 t19 t20 t21 t22 t23 t24 t25 t26 t27 t28 t29 t30 t31 t32 t33 t34 t35 t36 t37 t38 t39 t40 t41 t42 t43 t44 t45 t46 t47 t48 t49 t50 t51 t52 t53 t54 t55 t56 t57 t58 t59 t60 t61 t62 t63 t64 t65 t66 t67 t68 t69 t70 t71 t72 t73 t74 t75 t76 t77 t78 t79 t80 t81 t82 t83 t84 t85 t86 t87 t88 t89 t90 t91 t92 t93 t94 t95 t96 t97 t98 t99 t100 t101 t102 t103 t104 t105 t106 t107 t108 t109 t110 t111 t112 t113 t114 t115 t116 t117 t118 t119 t120 t121 t122 t123 t124 t125 t126 t127 t128 t129 t130 t131 => ?_⟩
    rw [show LL3a = LL3au from rfl]
    simp (config := { decide := true }) only [LL3au, REST12a, regionOf, tailFrom, firstId, findLoop, blockOf, body3, Try.f3, Option.getD_some, Option.bind_some, reduceIte, Option.some.injEq, Nat.reduceEqDiff, reduceCtorEq]
    ((iterate 2 (refine LG.ctl hD rfl (fun _ => stepG_seq) ?_)); refine LG.ctl hD rfl (fun _ => stepG_region) ?_; simp only [List.size_toArray, List.length_cons, List.length_nil, Nat.reduceAdd, Nat.zero_add, List.range, List.range.loop]; (iterate 4 (refine LG.value hD _ rfl rfl (by k_ne) (fun _ => by go_simp <;> rfl) (fun _ => by simp [go_sem, *]) ?_; walk_nrm)); refine LG.ctl hD rfl (fun _ => stepG_region_end) ?_; refine LG.ctl hD rfl (fun _ => stepG_cond (t := false) rfl) ?_; simp only [if_true, if_false, Bool.false_eq_true, ↓reduceIte]; refine LG.ctl hD rfl (fun _ => stepG_exit rfl) ?_)
    exact Go.ConcM.goes_le (n := m) (by omega) (hm _ _ _ _ _ _ _ _ _ _ _ _ _ _ _ _ _ _ _ _ _ _ _ _ _ _ _ _ _ _ _ _ _ _ _ _ _ _ _ _ _ _ _ _ _ _ _ _ _ _ _ _ _ _ _ _ _ _ _ _ _ _ _ _ _ _ _ _ _ _ _ _ _ _ _ _ _ _ _ _ _ _ _ _ _ _ _ _ _ _ _ _ _ _ _ _ _ _ _ _ _ _ _ _ _ _ _ _ _ _ _ _ _ _ _ _ _ _ _ _ _ _ _ _ _ _ _)
  | succ rem ih =>
    intro i hi
    obtain ⟨m, hm⟩ := ih (i + 1) (by omega)
    have hlt : i < L := by omega
    obtain ⟨lb, lo, rfl, hl⟩ := hI.l (by omega)
    refine ⟨m + 60, fun t2 t3 t5 t6 t9 t10 t11 t12 t13 t14 t15 t16 t17 t18 t19 t20 t21 t22 t23 t24 t25 t26 t27 t28 t29 t30 t31 t32 t33 t34 t35 t36 t37 t38 t39 t40 t41 t42 t43 t44 t45 t46 t47 t48 t49 t50 t51 t52 t53 t54 t55 t56 t57 t58 t59 t60 t61 t62 t63 t64 t65 t66 t67 t68 t69 t70 t71 t72 t73 t74 t75 t76 t77 t78 t79 t80 t81 t82 t83 t84 t85 t86 t87 t88 t89 t90 t91 t92 t93 t94 t95 t96 t97 t98 t99 t100 t101 t102 t103 t104 t105 t106 t107 t108 t109 t110 t111 t112 t113 t114 t115 t116 t117 t118 t119 t120 t121 t122 t123 t124 t125 t126 t127 t128 t129 t130 t131 => ?_⟩
    rw [show LL3a = LL3au from rfl]
    simp (config := { decide := true }) only [LL3au, REST12a, regionOf, tailFrom, firstId, findLoop, blockOf, body3, Try.f3, Option.getD_some, Option.bind_some, reduceIte, Option.some.injEq, Nat.reduceEqDiff, reduceCtorEq]
    ((iterate 2 (refine LG.ctl hD rfl (fun _ => stepG_seq) ?_)); refine LG.ctl hD rfl (fun _ => stepG_region) ?_; simp only [List.size_toArray, List.length_cons, List.length_nil, Nat.reduceAdd, Nat.zero_add, List.range, List.range.loop]; (iterate 4 (refine LG.value hD _ rfl rfl (by k_ne) (fun _ => by go_simp <;> rfl) (fun _ => by simp [go_sem, *]) ?_; walk_nrm)); refine LG.ctl hD rfl (fun _ => stepG_region_end) ?_; refine LG.ctl hD rfl (fun _ => stepG_cond (t := true) rfl) ?_; simp only [if_true, if_false, Bool.false_eq_true, ↓reduceIte]; refine LG.ctl hD rfl (fun _ => stepG_skip) ?_; refine LG.ctl hD rfl (fun _ => stepG_seq) ?_; refine LG.ctl hD rfl (fun _ => stepG_block) ?_; refine LG.ctl hD rfl (fun _ => stepG_region) ?_; simp only [List.size_toArray, List.length_cons, List.length_nil, Nat.reduceAdd, Nat.zero_add, List.range, List.range.loop]; (iterate 4 (refine LG.value hD _ rfl rfl (by k_ne) (fun _ => by go_simp <;> rfl) (fun _ => by simp [go_sem, *]) ?_; walk_nrm)))
    refine LG.ld 26 (by simp) rfl rfl (by k_ne) rfl rfl (hw.cell (hl i hlt)) (hS.below (block_lt (hl i hlt))) ?_
    walk_nrm
    ((iterate 3 (refine LG.value hD _ rfl rfl (by k_ne) (fun _ => by go_simp <;> rfl) (fun _ => by simp [go_sem, *]) ?_; walk_nrm)); refine LG.ctl hD rfl (fun _ => stepG_region_end) ?_; refine LG.ctl hD rfl (fun _ => stepG_inBlock) ?_; refine LG.ctl hD rfl (fun _ => stepG_region) ?_; simp only [List.size_toArray, List.length_cons, List.length_nil, Nat.reduceAdd, Nat.zero_add, List.range, List.range.loop]; (iterate 3 (refine LG.value hD _ rfl rfl (by k_ne) (fun _ => by go_simp <;> rfl) (fun _ => by simp [go_sem, *]) ?_; walk_nrm)); refine LG.ctl hD rfl (fun _ => stepG_region_end) ?_)
    refine LG.ctl hD rfl (fun _ => stepG_inLoop) ?_
    have e := hI.lL
    rw [show IntKind.i64.wrap ((i : Int) + 1) = ((i + 1 : Nat) : Int) from by rw [IntKind.wrap_i64]; omega, show IntKind.i64.wrap (sumW rn i + (rn i : Int)) = sumW rn (i + 1) from rfl]
    exact Go.ConcM.goes_le (n := m) (by omega) (hm _ _ _ _ _ _ _ _ _ _ _ _ _ _ _ _ _ _ _ _ _ _ _ _ _ _ _ _ _ _ _ _ _ _ _ _ _ _ _ _ _ _ _ _ _ _ _ _ _ _ _ _ _ _ _ _ _ _ _ _ _ _ _ _ _ _ _ _ _ _ _ _ _ _ _ _ _ _ _ _ _ _ _ _ _ _ _ _ _ _ _ _ _ _ _ _ _ _ _ _ _ _ _ _ _ _ _ _ _ _ _ _ _ _ _ _ _ _ _ _ _ _ _ _ _ _ _)
end

/-- ████ IT STANDS AT A CALL OF See, for row i. ████ -/
def CallI (W : World) (lp : Option Addr) (L lc : Nat) (wp : Option Addr) (K wc : Nat) (rq : Nat → Option Addr) (rn rc : Nat → Nat) (i : Nat) (Shun : Loc → Prop) (g : Goroutine) (w : World) : Prop :=
  ∃ (A : Nat) (S : List ByteArray) (M : Option Nat) (seen : List ByteArray) (sv : Value) (wv : Int) (T : Nat → Value), LO W A S M seen sv w ∧ seen.length ≤ 300 * i ∧ ShunOk W.heap.size Shun w ∧
    g = G ((Go.Conc.base 5).at ⟨#[.pointer (some ⟨A, 0, none⟩), .slice (rq i) (rn i) (rc i), .int .i64 wv, undef, undef, undef, undef, undef, undef, undef, undef, undef, undef, undef, undef, undef, undef, undef, undef, undef, undef, undef, undef, undef, undef, undef, undef, undef, undef, undef, undef, undef, undef, undef, undef, undef, undef, undef, undef, undef, undef, undef, undef, undef, undef, undef, undef, undef, undef, undef, undef, undef, undef, undef, undef, undef, undef, undef, undef, undef, undef, undef, undef, undef, undef, undef, undef, undef, undef, undef, undef, undef, undef, undef, undef, undef, undef], []⟩ [.code body5]) [(Go.Conc.base 3).at ⟨#[.slice lp L lc, .slice wp K wc, T 2, T 3, .bool false, .pointer (some ⟨A, 0, none⟩), T 6, T 7, T 8, sv, .int .i64 (i : Int), T 11, T 12, T 13, T 14, T 15, T 16, T 17, T 18, T 19, T 20, T 21, T 22, T 23, T 24, T 25, T 26, T 27, T 28, T 29, T 30, T 31, T 32, T 33, T 34, T 35, T 36, T 37, T 38, T 39, T 40, T 41, T 42, T 43, T 44, T 45, T 46, T 47, T 48, T 49, T 50, T 51, T 52, T 53, T 54, T 55, T 56, T 57, T 58, T 59, T 60, T 61, T 62, T 63, T 64, T 65, T 66, T 67, T 68, T 69, T 70, T 71, T 72, T 73, T 74, T 75, T 76, T 77, T 78, T 79, T 80, T 81, T 82, T 83, T 84, T 85, T 86, T 87, T 88, T 89, T 90, T 91, T 92, T 93, T 94, T 95, T 96, T 97, T 98, T 99, T 100, T 101, T 102, T 103, T 104, T 105, T 106, T 107, T 108, T 109, T 110, T 111, T 112, T 113, T 114, T 115, T 116, T 117, T 118, T 119, T 120, T 121, T 122, T 123, T 124, T 125, T 126, T 127, T 128, T 129, T 130, T 131], []⟩ (.inRegion ops22 [6, 7] :: [.code REST23, .inBlock 3, .code REST18, .inLoop LL3h, .inBlock 2, .code REST34])]

section
variable {Shun : Loc → Prop} {W : World} {lp wp : Option Addr} {L lc K wc : Nat} {rq : Nat → Option Addr} {rn rc : Nat → Nat} {s : Nat → Nat → ByteArray} {wk : Nat → Int}
theorem LO.at {A : Nat} {S : List ByteArray} {M : Option Nat} {seen : List ByteArray} {sv : Value} {w : World} (h : LO W A S M seen sv w) (d : Nat) : LO W A S M seen sv (w.at d) := ⟨h.lw.at d, h.al, h.aH, h.mH, h.row, h.nodup, h.same⟩
set_option maxHeartbeats 16000000 in
/-- ████ FROM THE LOOP's HEAD to the call, or to the end. ████ -/
theorem segI (hI : Inp W lp L wp K rq rn rc s wk) : ∃ m, ∀ (i A : Nat) (S : List ByteArray) (M : Option Nat) (seen : List ByteArray) (sv : Value) (w : World) (t2 t3 t6 t7 t8 t11 t12 t13 t14 t15 t16 t17 t18 t19 t20 t21 t22 t23 t24 t25 t26 t27 t28 t29 t30 t31 t32 t33 t34 t35 t36 t37 t38 t39 t40 t41 t42 t43 t44 t45 t46 t47 t48 t49 t50 t51 t52 t53 t54 t55 t56 t57 t58 t59 t60 t61 t62 t63 t64 t65 t66 t67 t68 t69 t70 t71 t72 t73 t74 t75 t76 t77 t78 t79 t80 t81 t82 t83 t84 t85 t86 t87 t88 t89 t90 t91 t92 t93 t94 t95 t96 t97 t98 t99 t100 t101 t102 t103 t104 t105 t106 t107 t108 t109 t110 t111 t112 t113 t114 t115 t116 t117 t118 t119 t120 t121 t122 t123 t124 t125 t126 t127 t128 t129 t130 t131 : Value), i ≤ L → LO W A S M seen sv w → seen.length ≤ 300 * i → ShunOk W.heap.size Shun w →
    Goes Try.prog true AtRel (DL Shun) (fun g w => (i = L ∧ FinL W Shun g w) ∨ (i < L ∧ CallI W lp L lc wp K wc rq rn rc i Shun g w)) m (G ((Go.Conc.base 3).at ⟨#[.slice lp L lc, .slice wp K wc, t2, t3, .bool false, .pointer (some ⟨A, 0, none⟩), t6, t7, t8, sv, .int .i64 (i : Int), t11, t12, t13, t14, t15, t16, t17, t18, t19, t20, t21, t22, t23, t24, t25, t26, t27, t28, t29, t30, t31, t32, t33, t34, t35, t36, t37, t38, t39, t40, t41, t42, t43, t44, t45, t46, t47, t48, t49, t50, t51, t52, t53, t54, t55, t56, t57, t58, t59, t60, t61, t62, t63, t64, t65, t66, t67, t68, t69, t70, t71, t72, t73, t74, t75, t76, t77, t78, t79, t80, t81, t82, t83, t84, t85, t86, t87, t88, t89, t90, t91, t92, t93, t94, t95, t96, t97, t98, t99, t100, t101, t102, t103, t104, t105, t106, t107, t108, t109, t110, t111, t112, t113, t114, t115, t116, t117, t118, t119, t120, t121, t122, t123, t124, t125, t126, t127, t128, t129, t130, t131], []⟩ [.code LL3h, .inLoop LL3h, .inBlock 2, .code REST34]) []) w := by
  have hD := dl_idle Shun
  refine ⟨100, fun i A S M sn sv w t2 t3 t6 t7 t8 t11 t12 t13 t14 t15 t16 t17 t18 t19 t20 t21 t22 t23 t24 t25 t26 t27 t28 t29 t30 t31 t32 t33 t34 t35 t36 t37 t38 t39 t40 t41 t42 t43 t44 t45 t46 t47 t48 t49 t50 t51 t52 t53 t54 t55 t56 t57 t58 t59 t60 t61 t62 t63 t64 t65 t66 t67 t68 t69 t70 t71 t72 t73 t74 t75 t76 t77 t78 t79 t80 t81 t82 t83 t84 t85 t86 t87 t88 t89 t90 t91 t92 t93 t94 t95 t96 t97 t98 t99 t100 t101 t102 t103 t104 t105 t106 t107 t108 t109 t110 t111 t112 t113 t114 t115 t116 t117 t118 t119 t120 t121 t122 t123 t124 t125 t126 t127 t128 t129 t130 t131 hle hO hsl hS => ?_⟩
  have eL := hI.lL
  have eK := hI.lK
  rw [show LL3h = LL3hu from rfl]
  simp (config := { decide := true }) only [LL3hu, REST34, regionOf, tailFrom, firstId, findLoop, blockOf, body3, Try.f3, Option.getD_some, Option.bind_some, reduceIte, Option.some.injEq, Nat.reduceEqDiff, reduceCtorEq]
  by_cases hlt : i < L
  · obtain ⟨lb, lo, rfl, hl⟩ := hI.l (by omega)
    by_cases hk : i < K
    · obtain ⟨pb, po, rfl, hp⟩ := hI.w (by omega)
      ((iterate 2 (refine LG.ctl hD rfl (fun _ => stepG_seq) ?_)); refine LG.ctl hD rfl (fun _ => stepG_region) ?_; simp only [List.size_toArray, List.length_cons, List.length_nil, Nat.reduceAdd, Nat.zero_add, List.range, List.range.loop]; (iterate 4 (refine LG.value hD _ rfl rfl (by k_ne) (fun _ => by go_simp <;> rfl) (fun _ => by simp [go_sem, *]) ?_; walk_nrm)); refine LG.ctl hD rfl (fun _ => stepG_region_end) ?_; refine LG.ctl hD rfl (fun _ => stepG_cond (t := true) rfl) ?_; simp only [if_true, if_false, Bool.false_eq_true, ↓reduceIte]; refine LG.ctl hD rfl (fun _ => stepG_skip) ?_; refine LG.ctl hD rfl (fun _ => stepG_seq) ?_; refine LG.ctl hD rfl (fun _ => stepG_block) ?_; refine LG.ctl hD rfl (fun _ => stepG_seq) ?_; refine LG.ctl hD rfl (fun _ => stepG_region) ?_; simp only [List.size_toArray, List.length_cons, List.length_nil, Nat.reduceAdd, Nat.zero_add, List.range, List.range.loop]; refine LG.value hD _ rfl rfl (by k_ne) (fun _ => by go_simp <;> rfl) (fun _ => by simp [go_sem, *]) ?_; walk_nrm; refine LG.ctl hD rfl (fun _ => stepG_region_end) ?_; (iterate 2 (refine LG.ctl hD rfl (fun _ => stepG_seq) ?_)); refine LG.ctl hD rfl (fun _ => stepG_region) ?_; simp only [List.size_toArray, List.length_cons, List.length_nil, Nat.reduceAdd, Nat.zero_add, List.range, List.range.loop]; (iterate 4 (refine LG.value hD _ rfl rfl (by k_ne) (fun _ => by go_simp <;> rfl) (fun _ => by simp [go_sem, *]) ?_; walk_nrm)); refine LG.ctl hD rfl (fun _ => stepG_region_end) ?_; refine LG.ctl hD rfl (fun _ => stepG_cond (t := true) rfl) ?_; simp only [if_true, if_false, Bool.false_eq_true, ↓reduceIte]; refine LG.ctl hD rfl (fun _ => stepG_region) ?_; simp only [List.size_toArray, List.length_cons, List.length_nil, Nat.reduceAdd, Nat.zero_add, List.range, List.range.loop]; (iterate 3 (refine LG.value hD _ rfl rfl (by k_ne) (fun _ => by go_simp <;> rfl) (fun _ => by simp [go_sem, *]) ?_; walk_nrm)))
      refine LG.ld 3 (by simp) rfl rfl (by k_ne) rfl rfl (hO.lw.cell (hp i hk)) (hS.below (block_lt (hp i hk))) ?_
      walk_nrm
      (refine LG.value hD _ rfl rfl (by k_ne) (fun _ => by go_simp <;> rfl) (fun _ => by simp [go_sem, *]) ?_; walk_nrm; refine LG.ctl hD rfl (fun _ => stepG_region_end) ?_; refine LG.ctl hD rfl (fun _ => stepG_seq) ?_; refine LG.ctl hD rfl (fun _ => stepG_region) ?_; simp only [List.size_toArray, List.length_cons, List.length_nil, Nat.reduceAdd, Nat.zero_add, List.range, List.range.loop]; (iterate 4 (refine LG.value hD _ rfl rfl (by k_ne) (fun _ => by go_simp <;> rfl) (fun _ => by simp [go_sem, *]) ?_; walk_nrm)))
      refine LG.ld 26 (by simp) rfl rfl (by k_ne) rfl rfl (hO.lw.cell (hl i hlt)) (hS.below (block_lt (hl i hlt))) ?_
      walk_nrm
      (refine LG.value hD _ rfl rfl (by k_ne) (fun _ => by go_simp <;> rfl) (fun _ => by simp [go_sem, *]) ?_; walk_nrm)
      (refine LG.call hD rfl rfl (by k_ne) rfl Try.func5 nm5 rfl ?_; walk_nrmf Try.f5)
      refine Goes.stop fun w₁ hr => ?_
      obtain ⟨d, rfl⟩ := hr
      exact .inr ⟨by first | exact hlt | trivial, A, S, M, sn, sv, _, pick [undef, undef, _, _, undef, undef, _, _, _, undef, undef, _, _, _, _, _, _, _, _, _, _, _, _, _, _, _, _, _, _, _, _, _, _, _, _, _, _, _, _, _, _, _, _, _, _, _, _, _, _, _, _, _, _, _, _, _, _, _, _, _, _, _, _, _, _, _, _, _, _, _, _, _, _, _, _, _, _, _, _, _, _, _, _, _, _, _, _, _, _, _, _, _, _, _, _, _, _, _, _, _, _, _, _, _, _, _, _, _, _, _, _, _, _, _, _, _, _, _, _, _, _, _, _, _, _, _, _, _, _, _, _, _], hO.at d, hsl, hS, rfl⟩
    · ((iterate 2 (refine LG.ctl hD rfl (fun _ => stepG_seq) ?_)); refine LG.ctl hD rfl (fun _ => stepG_region) ?_; simp only [List.size_toArray, List.length_cons, List.length_nil, Nat.reduceAdd, Nat.zero_add, List.range, List.range.loop]; (iterate 4 (refine LG.value hD _ rfl rfl (by k_ne) (fun _ => by go_simp <;> rfl) (fun _ => by simp [go_sem, *]) ?_; walk_nrm)); refine LG.ctl hD rfl (fun _ => stepG_region_end) ?_; refine LG.ctl hD rfl (fun _ => stepG_cond (t := true) rfl) ?_; simp only [if_true, if_false, Bool.false_eq_true, ↓reduceIte]; refine LG.ctl hD rfl (fun _ => stepG_skip) ?_; refine LG.ctl hD rfl (fun _ => stepG_seq) ?_; refine LG.ctl hD rfl (fun _ => stepG_block) ?_; refine LG.ctl hD rfl (fun _ => stepG_seq) ?_; refine LG.ctl hD rfl (fun _ => stepG_region) ?_; simp only [List.size_toArray, List.length_cons, List.length_nil, Nat.reduceAdd, Nat.zero_add, List.range, List.range.loop]; refine LG.value hD _ rfl rfl (by k_ne) (fun _ => by go_simp <;> rfl) (fun _ => by simp [go_sem, *]) ?_; walk_nrm; refine LG.ctl hD rfl (fun _ => stepG_region_end) ?_; (iterate 2 (refine LG.ctl hD rfl (fun _ => stepG_seq) ?_)); refine LG.ctl hD rfl (fun _ => stepG_region) ?_; simp only [List.size_toArray, List.length_cons, List.length_nil, Nat.reduceAdd, Nat.zero_add, List.range, List.range.loop]; (iterate 4 (refine LG.value hD _ rfl rfl (by k_ne) (fun _ => by go_simp <;> rfl) (fun _ => by simp [go_sem, *]) ?_; walk_nrm)); refine LG.ctl hD rfl (fun _ => stepG_region_end) ?_; refine LG.ctl hD rfl (fun _ => stepG_cond (t := false) rfl) ?_; simp only [if_true, if_false, Bool.false_eq_true, ↓reduceIte]; refine LG.ctl hD rfl (fun _ => stepG_skip) ?_; refine LG.ctl hD rfl (fun _ => stepG_seq) ?_; refine LG.ctl hD rfl (fun _ => stepG_region) ?_; simp only [List.size_toArray, List.length_cons, List.length_nil, Nat.reduceAdd, Nat.zero_add, List.range, List.range.loop]; (iterate 4 (refine LG.value hD _ rfl rfl (by k_ne) (fun _ => by go_simp <;> rfl) (fun _ => by simp [go_sem, *]) ?_; walk_nrm)))
      refine LG.ld 26 (by simp) rfl rfl (by k_ne) rfl rfl (hO.lw.cell (hl i hlt)) (hS.below (block_lt (hl i hlt))) ?_
      walk_nrm
      (refine LG.value hD _ rfl rfl (by k_ne) (fun _ => by go_simp <;> rfl) (fun _ => by simp [go_sem, *]) ?_; walk_nrm)
      (refine LG.call hD rfl rfl (by k_ne) rfl Try.func5 nm5 rfl ?_; walk_nrmf Try.f5)
      refine Goes.stop fun w₁ hr => ?_
      obtain ⟨d, rfl⟩ := hr
      exact .inr ⟨by first | exact hlt | trivial, A, S, M, sn, sv, _, pick [undef, undef, _, _, undef, undef, _, _, _, undef, undef, _, _, _, _, _, _, _, _, _, _, _, _, _, _, _, _, _, _, _, _, _, _, _, _, _, _, _, _, _, _, _, _, _, _, _, _, _, _, _, _, _, _, _, _, _, _, _, _, _, _, _, _, _, _, _, _, _, _, _, _, _, _, _, _, _, _, _, _, _, _, _, _, _, _, _, _, _, _, _, _, _, _, _, _, _, _, _, _, _, _, _, _, _, _, _, _, _, _, _, _, _, _, _, _, _, _, _, _, _, _, _, _, _, _, _, _, _, _, _, _, _], hO.at d, hsl, hS, rfl⟩
  · obtain rfl : i = L := by omega
    ((iterate 2 (refine LG.ctl hD rfl (fun _ => stepG_seq) ?_)); refine LG.ctl hD rfl (fun _ => stepG_region) ?_; simp only [List.size_toArray, List.length_cons, List.length_nil, Nat.reduceAdd, Nat.zero_add, List.range, List.range.loop]; (iterate 4 (refine LG.value hD _ rfl rfl (by k_ne) (fun _ => by go_simp <;> rfl) (fun _ => by simp [go_sem, *]) ?_; walk_nrm)); refine LG.ctl hD rfl (fun _ => stepG_region_end) ?_; refine LG.ctl hD rfl (fun _ => stepG_cond (t := false) rfl) ?_; simp only [if_true, if_false, Bool.false_eq_true, ↓reduceIte]; refine LG.ctl hD rfl (fun _ => stepG_exit rfl) ?_; refine LG.ctl hD rfl (fun _ => stepG_seq) ?_; refine LG.ctl hD rfl (fun _ => stepG_region) ?_; simp only [List.size_toArray, List.length_cons, List.length_nil, Nat.reduceAdd, Nat.zero_add, List.range, List.range.loop]; refine LG.value hD _ rfl rfl (by k_ne) (fun _ => by go_simp <;> rfl) (fun _ => by simp [go_sem, *]) ?_; walk_nrm; refine LG.ctl hD rfl (fun _ => stepG_region_end) ?_; refine LG.ctl hD rfl (fun _ => stepG_ret') ?_)
    refine Goes.stop fun w₁ hr => ?_
    obtain ⟨d, rfl⟩ := hr
    refine .inl ⟨by trivial, fun d2 => ⟨rfl, .bool true, #[], ?_, by simp, rfl, (hO.lw.at d).at d2⟩⟩
    simp [G, stepG, unwind, doReturn, results, Frame.at, Go.Conc.base, Try.func3, Try.f3, seen, GStep.after]
end
end Go.Proofs.Ytnlopklbbajlbaa.Sw
