/- LightOnce: its region 29 looks at the answer, in every order (printed by tools/genhe.py). -/
import Derived.Test.YtnlopklbbajlbaaSwHD
set_option linter.unusedVariables false
set_option linter.unusedSimpArgs false
set_option maxRecDepth 100000
namespace Go.Proofs.Ytnlopklbbajlbaa.Sw
open Go Go.Conc Go.ConcN Go.RowKit
open Go.ConcR (DC0 stA smA)
noncomputable def ops29 : Array Oper := (regionOf 29 body3).getD #[]
theorem idx22_run {a : Act} {o : Oper} {w : World} {x y : Operand} {b of l cp k : Nat} (hk : k < l) (hop : o.op = .indexAddr 22 x y) (hx : a.eval x = .slice (some ⟨b, of, none⟩) l cp) (hy : a.eval y = .int .i64 k) :
    (execOp a.eval o).run Try.prog w = .ok (.value (.pointer (some ⟨b, of + k, none⟩))) w ∧ (execOp a.eval o).events Try.prog w #[] = #[] := by
  have e := add_mk b of k
  have h1 : (0 : Int) ≤ k ∧ (k : Int) < l := by omega
  constructor
  · unfold execOp
    simp only [hop, hx, hy]
    simp [go_sem, h1, hk, e]
  · unfold execOp
    simp only [hop, hx, hy]
    simp [go_sem, h1, hk, e]
theorem dag29 : Dag ops29 := dag_of (by kernel_rfl)
section
variable {Shun : Loc → Prop} {Stop : Goroutine → World → Prop} {w : World} {lb lo L lc i ob oo on oc k j rb ro rn rc : Nat} {x : ByteArray} {sv : Value} {cs : List Frame} {kk : List Item}
set_option maxHeartbeats 16000000 in
/-- ████ THE ANSWER HOLDS THE NAME, in every order. ████ -/
theorem r29 (hi : i < L) (hj : j < rn) (hk : k < on) (hl : w.cell? ⟨lb, lo + i, none⟩ = some (.slice (some ⟨rb, ro, none⟩) rn rc)) (hr : w.cell? ⟨rb, ro + j, none⟩ = some (.string x)) (ho : w.cell? ⟨ob, oo + k, none⟩ = some (.string x)) (s1 : ¬ Shun (.cell ⟨lb, lo + i, none⟩)) (s2 : ¬ Shun (.cell ⟨rb, ro + j, none⟩)) (s3 : ¬ Shun (.cell ⟨ob, oo + k, none⟩)) {m : Nat} (t1 t2 t3 t5 t6 t7 t8 t11 t15 t16 t17 t18 t19 t20 t21 t22 t23 t24 t25 t26 t27 t28 t29 t30 t31 t32 t33 t34 t35 t36 t37 t38 t39 t40 t41 t42 t43 t44 t45 t46 t47 t48 t49 t50 t51 t52 t53 t54 t55 t56 t57 t58 t59 t60 t61 t62 t63 t64 t65 t66 t67 t68 t69 t70 t71 t72 t73 t74 t75 t76 t77 t78 t79 t80 t81 t82 t83 t84 t85 t86 t87 t88 t89 t90 t91 t92 t93 t94 t95 t96 t97 t98 t99 t100 t119 t120 t121 t122 t123 t124 t125 t126 t127 t128 t129 t130 t131 t101 t102 t103 t104 t105 t106 t107 t108 t109 t110 t111 t112 t113 t114 t115 t116 t117 t118 : Value)
    (next : Goes Try.prog true AtRel (DL Shun) Stop m (G ((Go.Conc.base 3).at ⟨#[.slice (some ⟨lb, lo, none⟩) L lc, t1, t2, t3, .bool false, t5, t6, t7, t8, sv, .int .i64 (i : Int), t11, .slice (some ⟨ob, oo, none⟩) on oc, .int .i64 (k : Int), .int .i64 (j : Int), t15, t16, t17, t18, t19, t20, t21, t22, t23, t24, t25, t26, t27, t28, t29, t30, t31, t32, t33, t34, t35, t36, t37, t38, t39, t40, t41, t42, t43, t44, t45, t46, t47, t48, t49, t50, t51, t52, t53, t54, t55, t56, t57, t58, t59, t60, t61, t62, t63, t64, t65, t66, t67, t68, t69, t70, t71, t72, t73, t74, t75, t76, t77, t78, t79, t80, t81, t82, t83, t84, t85, t86, t87, t88, t89, t90, t91, t92, t93, t94, t95, t96, t97, t98, t99, t100, .int .i64 (k : Int), .slice (some ⟨ob, oo, none⟩) on oc, .int .i64 (on : Int), .bool false, .bool false, .slice (some ⟨ob, oo, none⟩) on oc, .int .i64 (k : Int), .pointer (some ⟨ob, oo + k, none⟩), .string x, .slice (some ⟨lb, lo, none⟩) L lc, .int .i64 (i : Int), .pointer (some ⟨lb, lo + i, none⟩), .slice (some ⟨rb, ro, none⟩) rn rc, .int .i64 (j : Int), .pointer (some ⟨rb, ro + j, none⟩), .string x, .bool false, .bool false, t119, t120, t121, t122, t123, t124, t125, t126, t127, t128, t129, t130, t131], []⟩ (.inRegion ops29 [] :: kk)) cs) w) :
    ∀ (l : List Nat) (b0 b1 b2 b3 b4 b5 b6 b7 b8 b9 b10 b11 b12 b13 b14 b15 b16 b17 : Bool), Ord ops29 #[b0, b1, b2, b3, b4, b5, b6, b7, b8, b9, b10, b11, b12, b13, b14, b15, b16, b17] l → Goes Try.prog true AtRel (DL Shun) Stop (m + l.length) (G ((Go.Conc.base 3).at ⟨#[.slice (some ⟨lb, lo, none⟩) L lc, t1, t2, t3, .bool false, t5, t6, t7, t8, sv, .int .i64 (i : Int), t11, .slice (some ⟨ob, oo, none⟩) on oc, .int .i64 (k : Int), .int .i64 (j : Int), t15, t16, t17, t18, t19, t20, t21, t22, t23, t24, t25, t26, t27, t28, t29, t30, t31, t32, t33, t34, t35, t36, t37, t38, t39, t40, t41, t42, t43, t44, t45, t46, t47, t48, t49, t50, t51, t52, t53, t54, t55, t56, t57, t58, t59, t60, t61, t62, t63, t64, t65, t66, t67, t68, t69, t70, t71, t72, t73, t74, t75, t76, t77, t78, t79, t80, t81, t82, t83, t84, t85, t86, t87, t88, t89, t90, t91, t92, t93, t94, t95, t96, t97, t98, t99, t100, bif b0 then .int .i64 (k : Int) else t101, bif b1 then .slice (some ⟨ob, oo, none⟩) on oc else t102, bif b2 then .int .i64 (on : Int) else t103, bif b3 then .bool false else t104, bif b4 then .bool false else t105, bif b5 then .slice (some ⟨ob, oo, none⟩) on oc else t106, bif b6 then .int .i64 (k : Int) else t107, bif b7 then .pointer (some ⟨ob, oo + k, none⟩) else t108, bif b8 then .string x else t109, bif b9 then .slice (some ⟨lb, lo, none⟩) L lc else t110, bif b10 then .int .i64 (i : Int) else t111, bif b11 then .pointer (some ⟨lb, lo + i, none⟩) else t112, bif b12 then .slice (some ⟨rb, ro, none⟩) rn rc else t113, bif b13 then .int .i64 (j : Int) else t114, bif b14 then .pointer (some ⟨rb, ro + j, none⟩) else t115, bif b15 then .string x else t116, bif b16 then .bool false else t117, bif b17 then .bool false else t118, t119, t120, t121, t122, t123, t124, t125, t126, t127, t128, t129, t130, t131], []⟩ (.inRegion ops29 l :: kk)) cs) w := by
  have hD := dl_idle Shun
  have hge : decide ((on : Int) ≤ (k : Int)) = false := by rw [decide_eq_false_iff_not]; omega
  intro l
  induction l with
  | nil =>
    intro b0 b1 b2 b3 b4 b5 b6 b7 b8 b9 b10 b11 b12 b13 b14 b15 b16 b17 ho
    have hall : ∀ q, q < 18 → (#[b0, b1, b2, b3, b4, b5, b6, b7, b8, b9, b10, b11, b12, b13, b14, b15, b16, b17] : Array Bool).getD q false = true := fun q hq => ho q hq
    obtain ⟨rfl, rfl, rfl, rfl, rfl, rfl, rfl, rfl, rfl, rfl, rfl, rfl, rfl, rfl, rfl, rfl, rfl, rfl⟩ : b0 = true ∧ b1 = true ∧ b2 = true ∧ b3 = true ∧ b4 = true ∧ b5 = true ∧ b6 = true ∧ b7 = true ∧ b8 = true ∧ b9 = true ∧ b10 = true ∧ b11 = true ∧ b12 = true ∧ b13 = true ∧ b14 = true ∧ b15 = true ∧ b16 = true ∧ b17 = true := ⟨hall 0 (by decide), hall 1 (by decide), hall 2 (by decide), hall 3 (by decide), hall 4 (by decide), hall 5 (by decide), hall 6 (by decide), hall 7 (by decide), hall 8 (by decide), hall 9 (by decide), hall 10 (by decide), hall 11 (by decide), hall 12 (by decide), hall 13 (by decide), hall 14 (by decide), hall 15 (by decide), hall 16 (by decide), hall 17 (by decide)⟩
    exact next
  | cons y l ih =>
    intro b0 b1 b2 b3 b4 b5 b6 b7 b8 b9 b10 b11 b12 b13 b14 b15 b16 b17 hor
    have hlt : y < 18 := hor.lt
    obtain ⟨hok, hor⟩ := hor
    rw [List.length_cons, ← Nat.add_assoc]
    obtain rfl | rfl | rfl | rfl | rfl | rfl | rfl | rfl | rfl | rfl | rfl | rfl | rfl | rfl | rfl | rfl | rfl | rfl : y = 0 ∨ y = 1 ∨ y = 2 ∨ y = 3 ∨ y = 4 ∨ y = 5 ∨ y = 6 ∨ y = 7 ∨ y = 8 ∨ y = 9 ∨ y = 10 ∨ y = 11 ∨ y = 12 ∨ y = 13 ∨ y = 14 ∨ y = 15 ∨ y = 16 ∨ y = 17 := by omega
    · have hok2 : b0 = false := by
        simp [okAt, ops29, regionOf, body3, Try.f3, Region.binds] at hok
        simp [hok]
      obtain rfl := hok2
      have ih2 := ih true b1 b2 b3 b4 b5 b6 b7 b8 b9 b10 b11 b12 b13 b14 b15 b16 b17 hor
      simp (config := { decide := true }) only [ops29, regionOf, body3, Try.f3, Option.getD_some, reduceIte, Option.some.injEq, Nat.reduceEqDiff, reduceCtorEq] at ih2 ⊢
      simp only [cond_true, cond_false] at ih2 ⊢
      refine LG.value hD _ rfl rfl (by k_ne) (fun _ => by go_simp <;> rfl) (fun _ => by simp [go_sem]) ?_
      exact ih2
    · have hok2 : b1 = false := by
        simp [okAt, ops29, regionOf, body3, Try.f3, Region.binds] at hok
        simp [hok]
      obtain rfl := hok2
      have ih2 := ih b0 true b2 b3 b4 b5 b6 b7 b8 b9 b10 b11 b12 b13 b14 b15 b16 b17 hor
      simp (config := { decide := true }) only [ops29, regionOf, body3, Try.f3, Option.getD_some, reduceIte, Option.some.injEq, Nat.reduceEqDiff, reduceCtorEq] at ih2 ⊢
      simp only [cond_true, cond_false] at ih2 ⊢
      refine LG.value hD _ rfl rfl (by k_ne) (fun _ => by go_simp <;> rfl) (fun _ => by simp [go_sem]) ?_
      exact ih2
    · have hok2 : b2 = false ∧ b1 = true := by
        simp [okAt, ops29, regionOf, body3, Try.f3, Region.binds] at hok
        simp [hok]
      obtain ⟨rfl, rfl⟩ := hok2
      have ih2 := ih b0 true true b3 b4 b5 b6 b7 b8 b9 b10 b11 b12 b13 b14 b15 b16 b17 hor
      simp (config := { decide := true }) only [ops29, regionOf, body3, Try.f3, Option.getD_some, reduceIte, Option.some.injEq, Nat.reduceEqDiff, reduceCtorEq] at ih2 ⊢
      simp only [cond_true, cond_false] at ih2 ⊢
      refine LG.value hD _ rfl rfl (by k_ne) (fun _ => by go_simp <;> rfl) (fun _ => by simp [go_sem]) ?_
      exact ih2
    · have hok2 : b3 = false ∧ b0 = true ∧ b2 = true := by
        simp [okAt, ops29, regionOf, body3, Try.f3, Region.binds] at hok
        simp [hok]
      obtain ⟨rfl, rfl, rfl⟩ := hok2
      have ih2 := ih true b1 true true b4 b5 b6 b7 b8 b9 b10 b11 b12 b13 b14 b15 b16 b17 hor
      simp (config := { decide := true }) only [ops29, regionOf, body3, Try.f3, Option.getD_some, reduceIte, Option.some.injEq, Nat.reduceEqDiff, reduceCtorEq] at ih2 ⊢
      simp only [cond_true, cond_false] at ih2 ⊢
      refine LG.value hD (.bool false) rfl rfl (by k_ne) (fun _ => by go_simp <;> simp [hge]) (fun _ => by simp [go_sem]) ?_
      exact ih2
    · have hok2 : b4 = false ∧ b3 = true := by
        simp [okAt, ops29, regionOf, body3, Try.f3, Region.binds] at hok
        simp [hok]
      obtain ⟨rfl, rfl⟩ := hok2
      have ih2 := ih b0 b1 b2 true true b5 b6 b7 b8 b9 b10 b11 b12 b13 b14 b15 b16 b17 hor
      simp (config := { decide := true }) only [ops29, regionOf, body3, Try.f3, Option.getD_some, reduceIte, Option.some.injEq, Nat.reduceEqDiff, reduceCtorEq] at ih2 ⊢
      simp only [cond_true, cond_false] at ih2 ⊢
      refine LG.value hD _ rfl rfl (by k_ne) (fun _ => by go_simp <;> rfl) (fun _ => by simp [go_sem]) ?_
      exact ih2
    · have hok2 : b5 = false ∧ b4 = true := by
        simp [okAt, ops29, regionOf, body3, Try.f3, Region.binds] at hok
        simp [hok]
      obtain ⟨rfl, rfl⟩ := hok2
      have ih2 := ih b0 b1 b2 b3 true true b6 b7 b8 b9 b10 b11 b12 b13 b14 b15 b16 b17 hor
      simp (config := { decide := true }) only [ops29, regionOf, body3, Try.f3, Option.getD_some, reduceIte, Option.some.injEq, Nat.reduceEqDiff, reduceCtorEq] at ih2 ⊢
      simp only [cond_true, cond_false] at ih2 ⊢
      refine LG.value hD _ rfl rfl (by k_ne) (fun _ => by go_simp <;> rfl) (fun _ => by simp [go_sem]) ?_
      exact ih2
    · have hok2 : b6 = false ∧ b4 = true := by
        simp [okAt, ops29, regionOf, body3, Try.f3, Region.binds] at hok
        simp [hok]
      obtain ⟨rfl, rfl⟩ := hok2
      have ih2 := ih b0 b1 b2 b3 true b5 true b7 b8 b9 b10 b11 b12 b13 b14 b15 b16 b17 hor
      simp (config := { decide := true }) only [ops29, regionOf, body3, Try.f3, Option.getD_some, reduceIte, Option.some.injEq, Nat.reduceEqDiff, reduceCtorEq] at ih2 ⊢
      simp only [cond_true, cond_false] at ih2 ⊢
      refine LG.value hD _ rfl rfl (by k_ne) (fun _ => by go_simp <;> rfl) (fun _ => by simp [go_sem]) ?_
      exact ih2
    · have hok2 : b7 = false ∧ b4 = true ∧ b5 = true ∧ b6 = true := by
        simp [okAt, ops29, regionOf, body3, Try.f3, Region.binds] at hok
        simp [hok]
      obtain ⟨rfl, rfl, rfl, rfl⟩ := hok2
      have ih2 := ih b0 b1 b2 b3 true true true true b8 b9 b10 b11 b12 b13 b14 b15 b16 b17 hor
      simp (config := { decide := true }) only [ops29, regionOf, body3, Try.f3, Option.getD_some, reduceIte, Option.some.injEq, Nat.reduceEqDiff, reduceCtorEq] at ih2 ⊢
      simp only [cond_true, cond_false] at ih2 ⊢
      refine LG.value hD (.pointer (some ⟨ob, oo + k, none⟩)) rfl rfl (by k_ne) (fun w => (idx_run (w := w) 26 (by simp) (cp := oc) (b := ob) (of := oo) hk rfl rfl rfl).1) (fun w => (idx_run (w := w) 26 (by simp) (cp := oc) (b := ob) (of := oo) hk rfl rfl rfl).2) ?_
      exact ih2
    · have hok2 : b8 = false ∧ b4 = true ∧ b7 = true := by
        simp [okAt, ops29, regionOf, body3, Try.f3, Region.binds] at hok
        simp [hok]
      obtain ⟨rfl, rfl, rfl⟩ := hok2
      have ih2 := ih b0 b1 b2 b3 true b5 b6 true true b9 b10 b11 b12 b13 b14 b15 b16 b17 hor
      simp (config := { decide := true }) only [ops29, regionOf, body3, Try.f3, Option.getD_some, reduceIte, Option.some.injEq, Nat.reduceEqDiff, reduceCtorEq] at ih2 ⊢
      simp only [cond_true, cond_false] at ih2 ⊢
      refine LG.ld 9 (by simp) rfl rfl (by k_ne) rfl rfl ho s3 ?_
      exact ih2
    · have hok2 : b9 = false ∧ b4 = true := by
        simp [okAt, ops29, regionOf, body3, Try.f3, Region.binds] at hok
        simp [hok]
      obtain ⟨rfl, rfl⟩ := hok2
      have ih2 := ih b0 b1 b2 b3 true b5 b6 b7 b8 true b10 b11 b12 b13 b14 b15 b16 b17 hor
      simp (config := { decide := true }) only [ops29, regionOf, body3, Try.f3, Option.getD_some, reduceIte, Option.some.injEq, Nat.reduceEqDiff, reduceCtorEq] at ih2 ⊢
      simp only [cond_true, cond_false] at ih2 ⊢
      refine LG.value hD _ rfl rfl (by k_ne) (fun _ => by go_simp <;> rfl) (fun _ => by simp [go_sem]) ?_
      exact ih2
    · have hok2 : b10 = false ∧ b4 = true := by
        simp [okAt, ops29, regionOf, body3, Try.f3, Region.binds] at hok
        simp [hok]
      obtain ⟨rfl, rfl⟩ := hok2
      have ih2 := ih b0 b1 b2 b3 true b5 b6 b7 b8 b9 true b11 b12 b13 b14 b15 b16 b17 hor
      simp (config := { decide := true }) only [ops29, regionOf, body3, Try.f3, Option.getD_some, reduceIte, Option.some.injEq, Nat.reduceEqDiff, reduceCtorEq] at ih2 ⊢
      simp only [cond_true, cond_false] at ih2 ⊢
      refine LG.value hD _ rfl rfl (by k_ne) (fun _ => by go_simp <;> rfl) (fun _ => by simp [go_sem]) ?_
      exact ih2
    · have hok2 : b11 = false ∧ b4 = true ∧ b9 = true ∧ b10 = true := by
        simp [okAt, ops29, regionOf, body3, Try.f3, Region.binds] at hok
        simp [hok]
      obtain ⟨rfl, rfl, rfl, rfl⟩ := hok2
      have ih2 := ih b0 b1 b2 b3 true b5 b6 b7 b8 true true true b12 b13 b14 b15 b16 b17 hor
      simp (config := { decide := true }) only [ops29, regionOf, body3, Try.f3, Option.getD_some, reduceIte, Option.some.injEq, Nat.reduceEqDiff, reduceCtorEq] at ih2 ⊢
      simp only [cond_true, cond_false] at ih2 ⊢
      refine LG.value hD (.pointer (some ⟨lb, lo + i, none⟩)) rfl rfl (by k_ne) (fun w => (idx22_run (w := w)  (cp := lc) (b := lb) (of := lo) hi rfl rfl rfl).1) (fun w => (idx22_run (w := w)  (cp := lc) (b := lb) (of := lo) hi rfl rfl rfl).2) ?_
      exact ih2
    · have hok2 : b12 = false ∧ b4 = true ∧ b11 = true := by
        simp [okAt, ops29, regionOf, body3, Try.f3, Region.binds] at hok
        simp [hok]
      obtain ⟨rfl, rfl, rfl⟩ := hok2
      have ih2 := ih b0 b1 b2 b3 true b5 b6 b7 b8 b9 b10 true true b13 b14 b15 b16 b17 hor
      simp (config := { decide := true }) only [ops29, regionOf, body3, Try.f3, Option.getD_some, reduceIte, Option.some.injEq, Nat.reduceEqDiff, reduceCtorEq] at ih2 ⊢
      simp only [cond_true, cond_false] at ih2 ⊢
      refine LG.ld 26 (by simp) rfl rfl (by k_ne) rfl rfl hl s1 ?_
      exact ih2
    · have hok2 : b13 = false ∧ b4 = true := by
        simp [okAt, ops29, regionOf, body3, Try.f3, Region.binds] at hok
        simp [hok]
      obtain ⟨rfl, rfl⟩ := hok2
      have ih2 := ih b0 b1 b2 b3 true b5 b6 b7 b8 b9 b10 b11 b12 true b14 b15 b16 b17 hor
      simp (config := { decide := true }) only [ops29, regionOf, body3, Try.f3, Option.getD_some, reduceIte, Option.some.injEq, Nat.reduceEqDiff, reduceCtorEq] at ih2 ⊢
      simp only [cond_true, cond_false] at ih2 ⊢
      refine LG.value hD _ rfl rfl (by k_ne) (fun _ => by go_simp <;> rfl) (fun _ => by simp [go_sem]) ?_
      exact ih2
    · have hok2 : b14 = false ∧ b4 = true ∧ b12 = true ∧ b13 = true := by
        simp [okAt, ops29, regionOf, body3, Try.f3, Region.binds] at hok
        simp [hok]
      obtain ⟨rfl, rfl, rfl, rfl⟩ := hok2
      have ih2 := ih b0 b1 b2 b3 true b5 b6 b7 b8 b9 b10 b11 true true true b15 b16 b17 hor
      simp (config := { decide := true }) only [ops29, regionOf, body3, Try.f3, Option.getD_some, reduceIte, Option.some.injEq, Nat.reduceEqDiff, reduceCtorEq] at ih2 ⊢
      simp only [cond_true, cond_false] at ih2 ⊢
      refine LG.value hD (.pointer (some ⟨rb, ro + j, none⟩)) rfl rfl (by k_ne) (fun w => (idx_run (w := w) 26 (by simp) (cp := rc) (b := rb) (of := ro) hj rfl rfl rfl).1) (fun w => (idx_run (w := w) 26 (by simp) (cp := rc) (b := rb) (of := ro) hj rfl rfl rfl).2) ?_
      exact ih2
    · have hok2 : b15 = false ∧ b4 = true ∧ b14 = true := by
        simp [okAt, ops29, regionOf, body3, Try.f3, Region.binds] at hok
        simp [hok]
      obtain ⟨rfl, rfl, rfl⟩ := hok2
      have ih2 := ih b0 b1 b2 b3 true b5 b6 b7 b8 b9 b10 b11 b12 b13 true true b16 b17 hor
      simp (config := { decide := true }) only [ops29, regionOf, body3, Try.f3, Option.getD_some, reduceIte, Option.some.injEq, Nat.reduceEqDiff, reduceCtorEq] at ih2 ⊢
      simp only [cond_true, cond_false] at ih2 ⊢
      refine LG.ld 9 (by simp) rfl rfl (by k_ne) rfl rfl hr s2 ?_
      exact ih2
    · have hok2 : b16 = false ∧ b4 = true ∧ b8 = true ∧ b15 = true := by
        simp [okAt, ops29, regionOf, body3, Try.f3, Region.binds] at hok
        simp [hok]
      obtain ⟨rfl, rfl, rfl, rfl⟩ := hok2
      have ih2 := ih b0 b1 b2 b3 true b5 b6 b7 true b9 b10 b11 b12 b13 b14 true true b17 hor
      simp (config := { decide := true }) only [ops29, regionOf, body3, Try.f3, Option.getD_some, reduceIte, Option.some.injEq, Nat.reduceEqDiff, reduceCtorEq] at ih2 ⊢
      simp only [cond_true, cond_false] at ih2 ⊢
      refine LG.value hD (.bool false) rfl rfl (by k_ne) (fun _ => by go_simp <;> simp) (fun _ => by simp [go_sem]) ?_
      exact ih2
    · have hok2 : b17 = false ∧ b4 = true ∧ b16 = true := by
        simp [okAt, ops29, regionOf, body3, Try.f3, Region.binds] at hok
        simp [hok]
      obtain ⟨rfl, rfl, rfl⟩ := hok2
      have ih2 := ih b0 b1 b2 b3 true b5 b6 b7 b8 b9 b10 b11 b12 b13 b14 b15 true true hor
      simp (config := { decide := true }) only [ops29, regionOf, body3, Try.f3, Option.getD_some, reduceIte, Option.some.injEq, Nat.reduceEqDiff, reduceCtorEq] at ih2 ⊢
      simp only [cond_true, cond_false] at ih2 ⊢
      refine LG.value hD _ rfl rfl (by k_ne) (fun _ => by go_simp <;> rfl) (fun _ => by simp [go_sem]) ?_
      exact ih2
end
end Go.Proofs.Ytnlopklbbajlbaa.Sw
